/- The walks of the document's cursor (a struct by value): Rest. Conditions: none beyond each lemma's own. -/
import Derived.Test.YtdljlcbjpfgmcaaCrC
namespace Go.Proofs.Ytdljlcbjpfgmcaa
open Go.RowKit
set_option maxRecDepth 100000
set_option maxHeartbeats 4000000

theorem bytes_same2 (s : St) (n : Int) : (s.bytes n).1.bs = s.bs ∧ (s.bytes n).1.sh = s.sh ∧ (s.bytes n).1.od = s.od := by
  unfold St.bytes St.fail
  split
  · split <;> exact ⟨rfl, rfl, rfl⟩
  split
  · exact ⟨rfl, rfl, rfl⟩
  split
  · split <;> exact ⟨rfl, rfl, rfl⟩
  · exact ⟨rfl, rfl, rfl⟩

theorem doc_rest (vB : Value) (s : St) (w : World) (h : Ints .u8 w vB s.bs) (hs : s.pos ≤ s.bs.length) (hbd : s.bs.length ≤ 1000000000) :
    Calls Try.prog 75 #[.agg (docA vB s)] w fun e w' => ∃ v, e = .returned (.tuple #[.agg (docA vB (s.bytes s.left).1), v]) ∧ Ints .u8 w' v (s.bytes s.left).2 ∧ New w.heap.size v ∧ Below w.heap.size w w' := by
  have HX := Lib.hid h
  obtain ⟨a, cap, b, off, rfl, -⟩ := h.open
  have hsame := bytes_same2 s s.left
  have HLf := fun w h => Lib.hid (doc_left (.slice a s.bs.length cap) s w h hs)
  have HBt := fun w h => Lib.hid (doc_bytes (.slice a s.bs.length cap) s s.left w h hs hbd)
  generalize (s.bytes s.left).2 = l at HBt ⊢
  generalize (s.bytes s.left).1 = s' at HBt hsame ⊢
  generalize (s.left : Int) = lf at HLf HBt
  obtain ⟨bs0, pos, sh0, od0, er⟩ := s
  obtain ⟨bs, pos', sh, od, er'⟩ := s'
  obtain ⟨q1, q2, q3⟩ := hsame
  dsimp only at q1 q2 q3
  subst q1 q2 q3
  have HBx : Hid (Below w.heap.size w ((w.alloc (.cells (docA (.slice a bs.length cap) ⟨bs, pos, sh, od, er⟩) 62)).alloc (.cells docZ 62))) := below_al2 _ _
  have HR0 : Hid (((w.alloc (.cells (docA (.slice a bs.length cap) ⟨bs, pos, sh, od, er⟩) 62)).alloc (.cells docZ 62)).heap[w.heap.size + 1]? = some (.cells docZ 62 (0, 0))) := heap_alloc2_new _ _ _
  have HL0 := HLf ((w.alloc (.cells (docA (.slice a bs.length cap) ⟨bs, pos, sh, od, er⟩) 62)).alloc (.cells docZ 62)).drew (HX.out.below (below_drewN HBx.out 1))
  clear h
  go_enter Try.func75, Try.ntmps75
  go_wp2_with fail
  have HB0 : Hid (((w.alloc (.cells (docA (.slice a bs.length cap) ⟨bs, pos, sh, od, er⟩) 62)).alloc (.cells docZ 62)).heap[w.heap.size]? = some (.cells (docA (.slice a bs.length cap) ⟨bs, pos, sh, od, er⟩) 62 (0, 0))) := ((below_al (w := w.alloc (.cells (docA (.slice a bs.length cap) ⟨bs, pos, sh, od, er⟩) 62)) (.cells docZ 62)).block w.heap.size (by simp)).trans (heap_alloc_new _ _)
  have HXs : Hid (Ints .u8 ((w.alloc (.cells (docA (.slice a bs.length cap) ⟨bs, pos, sh, od, er⟩) 62)).alloc (.cells docZ 62)) (.slice a bs.length cap) bs) := HX.out.below HBx.out
  generalize ((w.alloc (.cells (docA (.slice a bs.length cap) ⟨bs, pos, sh, od, er⟩) 62)).alloc (.cells docZ 62)) = wa at HBx HR0 HB0 HL0 HXs ⊢
  have k0 : wa.cell? ⟨w.heap.size, 0, none⟩ = some (.slice a bs.length cap) := cell_at HB0.out 0
  have k1 : wa.cell? ⟨w.heap.size, 1, none⟩ = some (.int .i64 pos) := cell_at HB0.out 1
  have k2 : wa.cell? ⟨w.heap.size, 2, none⟩ = some (.int .i64 sh) := cell_at HB0.out 2
  have k3 : wa.cell? ⟨w.heap.size, 3, none⟩ = some (.int .i64 od) := cell_at HB0.out 3
  have k4 : wa.cell? ⟨w.heap.size, 4, none⟩ = some (.int .i64 er) := cell_at HB0.out 4
  go_region_with (first
    | (go_at_call 46
       (with_reducible refine HL0.out.mono ?_)
       rintro e1 w2 ⟨rfl, hb⟩
       have HB2 := Lib.hid ((below_drewN HBx.out 1).trans (hb.mono HBx.out.size))
       have HBt2 := HBt w2 (HX.out.below HB2.out)
       have HR2 := Lib.hid ((hb.block (w.heap.size + 1) (Array.getElem?_eq_some_iff.1 HR0.out).1).trans HR0.out)
       have HBb2 := (hb.block w.heap.size (Array.getElem?_eq_some_iff.1 HB0.out).1).trans HB0.out
       have m0 : w2.cell? ⟨w.heap.size, 0, none⟩ = some (.slice a bs.length cap) := cell_at HBb2 0
       have m1 : w2.cell? ⟨w.heap.size, 1, none⟩ = some (.int .i64 pos) := cell_at HBb2 1
       have m2 : w2.cell? ⟨w.heap.size, 2, none⟩ = some (.int .i64 sh) := cell_at HBb2 2
       have m3 : w2.cell? ⟨w.heap.size, 3, none⟩ = some (.int .i64 od) := cell_at HBb2 3
       have m4 : w2.cell? ⟨w.heap.size, 4, none⟩ = some (.int .i64 er) := cell_at HBb2 4
       clear hb HBb2)
    | (go_at_call 74
       (with_reducible refine HBt2.out.mono ?_)
       rintro e1 w3 ⟨v3, rfl, hv, hn, hb⟩
       have HB3 := Lib.hid (HB2.out.trans (hb.mono HB2.out.size))
       have HR3 := Lib.hid ((hb.block (w.heap.size + 1) (Array.getElem?_eq_some_iff.1 HR2.out).1).trans HR2.out)
       have HV3 := Lib.hid hv
       have HN3 := Lib.hid hn
       have hs2 : Hid (w.heap.size + 1 < w2.heap.size) := (Array.getElem?_eq_some_iff.1 HR2.out).1
       obtain ⟨a3, c3, b3, o3, rfl, -⟩ := hv.open
       clear hb hv hn
       have y0 : Hid (w3.heap[w.heap.size + 1]? = some (.cells docZ 62 (0, 0))) := HR3.out
       have z0 : w3.cell? ⟨w.heap.size + 1, 0, none⟩ = some (.slice none 0 0) := cell_at HR3.out 0
       have f0 : w3.frozen? ⟨w.heap.size + 1, 0, none⟩ = false := (by simp only [World.frozen?, HR3.out]; rfl)
       have g0 : Hid (w3.grownBy (w3.setCell ⟨w.heap.size + 1, 0, none⟩ (.slice a bs.length cap)) (some (w.heap.size + 1))) := grown_put _ _ _ _
       have y1 : Hid ((w3.setCell ⟨w.heap.size + 1, 0, none⟩ (.slice a bs.length cap)).heap[w.heap.size + 1]? = some (.cells #[.slice a bs.length cap, .int .i64 0, .int .i64 0, .int .i64 0, .int .i64 0] 62 (0, 0))) := (heap_put y0.out 0 (.slice a bs.length cap)).trans rfl
       have z1 : w3.cell? ⟨w.heap.size + 1, 1, none⟩ = some (.int .i64 0) := cell_at HR3.out 1
       have f1 : w3.frozen? ⟨w.heap.size + 1, 1, none⟩ = false := (by simp only [World.frozen?, HR3.out]; rfl)
       have g1 : Hid ((w3.setCell ⟨w.heap.size + 1, 0, none⟩ (.slice a bs.length cap)).grownBy ((w3.setCell ⟨w.heap.size + 1, 0, none⟩ (.slice a bs.length cap)).setCell ⟨w.heap.size + 1, 1, none⟩ (.int .i64 pos')) (some (w.heap.size + 1))) := grown_put _ _ _ _
       have y2 : Hid (((w3.setCell ⟨w.heap.size + 1, 0, none⟩ (.slice a bs.length cap)).setCell ⟨w.heap.size + 1, 1, none⟩ (.int .i64 pos')).heap[w.heap.size + 1]? = some (.cells #[.slice a bs.length cap, .int .i64 pos', .int .i64 0, .int .i64 0, .int .i64 0] 62 (0, 0))) := (heap_put y1.out 1 (.int .i64 pos')).trans rfl
       have z2 : w3.cell? ⟨w.heap.size + 1, 2, none⟩ = some (.int .i64 0) := cell_at HR3.out 2
       have f2 : w3.frozen? ⟨w.heap.size + 1, 2, none⟩ = false := (by simp only [World.frozen?, HR3.out]; rfl)
       have g2 : Hid (((w3.setCell ⟨w.heap.size + 1, 0, none⟩ (.slice a bs.length cap)).setCell ⟨w.heap.size + 1, 1, none⟩ (.int .i64 pos')).grownBy (((w3.setCell ⟨w.heap.size + 1, 0, none⟩ (.slice a bs.length cap)).setCell ⟨w.heap.size + 1, 1, none⟩ (.int .i64 pos')).setCell ⟨w.heap.size + 1, 2, none⟩ (.int .i64 sh)) (some (w.heap.size + 1))) := grown_put _ _ _ _
       have y3 : Hid ((((w3.setCell ⟨w.heap.size + 1, 0, none⟩ (.slice a bs.length cap)).setCell ⟨w.heap.size + 1, 1, none⟩ (.int .i64 pos')).setCell ⟨w.heap.size + 1, 2, none⟩ (.int .i64 sh)).heap[w.heap.size + 1]? = some (.cells #[.slice a bs.length cap, .int .i64 pos', .int .i64 sh, .int .i64 0, .int .i64 0] 62 (0, 0))) := (heap_put y2.out 2 (.int .i64 sh)).trans rfl
       have z3 : w3.cell? ⟨w.heap.size + 1, 3, none⟩ = some (.int .i64 0) := cell_at HR3.out 3
       have f3 : w3.frozen? ⟨w.heap.size + 1, 3, none⟩ = false := (by simp only [World.frozen?, HR3.out]; rfl)
       have g3 : Hid ((((w3.setCell ⟨w.heap.size + 1, 0, none⟩ (.slice a bs.length cap)).setCell ⟨w.heap.size + 1, 1, none⟩ (.int .i64 pos')).setCell ⟨w.heap.size + 1, 2, none⟩ (.int .i64 sh)).grownBy ((((w3.setCell ⟨w.heap.size + 1, 0, none⟩ (.slice a bs.length cap)).setCell ⟨w.heap.size + 1, 1, none⟩ (.int .i64 pos')).setCell ⟨w.heap.size + 1, 2, none⟩ (.int .i64 sh)).setCell ⟨w.heap.size + 1, 3, none⟩ (.int .i64 od)) (some (w.heap.size + 1))) := grown_put _ _ _ _
       have y4 : Hid (((((w3.setCell ⟨w.heap.size + 1, 0, none⟩ (.slice a bs.length cap)).setCell ⟨w.heap.size + 1, 1, none⟩ (.int .i64 pos')).setCell ⟨w.heap.size + 1, 2, none⟩ (.int .i64 sh)).setCell ⟨w.heap.size + 1, 3, none⟩ (.int .i64 od)).heap[w.heap.size + 1]? = some (.cells #[.slice a bs.length cap, .int .i64 pos', .int .i64 sh, .int .i64 od, .int .i64 0] 62 (0, 0))) := (heap_put y3.out 3 (.int .i64 od)).trans rfl
       have z4 : w3.cell? ⟨w.heap.size + 1, 4, none⟩ = some (.int .i64 0) := cell_at HR3.out 4
       have f4 : w3.frozen? ⟨w.heap.size + 1, 4, none⟩ = false := (by simp only [World.frozen?, HR3.out]; rfl)
       have g4 : Hid (((((w3.setCell ⟨w.heap.size + 1, 0, none⟩ (.slice a bs.length cap)).setCell ⟨w.heap.size + 1, 1, none⟩ (.int .i64 pos')).setCell ⟨w.heap.size + 1, 2, none⟩ (.int .i64 sh)).setCell ⟨w.heap.size + 1, 3, none⟩ (.int .i64 od)).grownBy (((((w3.setCell ⟨w.heap.size + 1, 0, none⟩ (.slice a bs.length cap)).setCell ⟨w.heap.size + 1, 1, none⟩ (.int .i64 pos')).setCell ⟨w.heap.size + 1, 2, none⟩ (.int .i64 sh)).setCell ⟨w.heap.size + 1, 3, none⟩ (.int .i64 od)).setCell ⟨w.heap.size + 1, 4, none⟩ (.int .i64 er')) (some (w.heap.size + 1))) := grown_put _ _ _ _
       have y5 : Hid ((((((w3.setCell ⟨w.heap.size + 1, 0, none⟩ (.slice a bs.length cap)).setCell ⟨w.heap.size + 1, 1, none⟩ (.int .i64 pos')).setCell ⟨w.heap.size + 1, 2, none⟩ (.int .i64 sh)).setCell ⟨w.heap.size + 1, 3, none⟩ (.int .i64 od)).setCell ⟨w.heap.size + 1, 4, none⟩ (.int .i64 er')).heap[w.heap.size + 1]? = some (.cells #[.slice a bs.length cap, .int .i64 pos', .int .i64 sh, .int .i64 od, .int .i64 er'] 62 (0, 0))) := (heap_put y4.out 4 (.int .i64 er')).trans rfl
       have HG : Hid (w3.grownBy (((((w3.setCell ⟨w.heap.size + 1, 0, none⟩ (.slice a bs.length cap)).setCell ⟨w.heap.size + 1, 1, none⟩ (.int .i64 pos')).setCell ⟨w.heap.size + 1, 2, none⟩ (.int .i64 sh)).setCell ⟨w.heap.size + 1, 3, none⟩ (.int .i64 od)).setCell ⟨w.heap.size + 1, 4, none⟩ (.int .i64 er')) (some (w.heap.size + 1))) := grown_trans g0.out (grown_trans g1.out (grown_trans g2.out (grown_trans g3.out g4.out)))
       skip))
  all_goals go_wp2
  all_goals
    refine bodyPost_ret (res_row_tmp rfl _ _ (w.heap.size + 1) _ _ _ _ rfl y5.out Try.underlying62 rfl (by kernel_rfl)) rfl ?_
    exact ⟨_, rfl, HV3.out.grown HG.out (fun k e e' => by have := HN3.out k e; have := hs2.out; injection e' with e'; omega), fun k e => by have := HN3.out k e; have := hs2.out; omega, below_row5 HB3.out HB3.out.size HG.out (Nat.le_succ _)⟩
end Go.Proofs.Ytdljlcbjpfgmcaa
