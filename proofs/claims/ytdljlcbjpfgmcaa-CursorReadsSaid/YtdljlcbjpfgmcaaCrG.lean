/- The walk of law 02's op, of the kind Fail. Conditions: none beyond each lemma's own. -/
import Derived.Test.YtdljlcbjpfgmcaaCrF
namespace Go.Proofs.Ytdljlcbjpfgmcaa
open Go.RowKit
set_option maxRecDepth 100000
set_option maxHeartbeats 4000000

theorem grown_setR (w : World) (g : Nat) (cs : Array Value) : w.grownBy (w.setRow g cs) (some g) :=
  ⟨rfl, rfl, rfl, by rw [setRow_size]; exact Nat.le_refl _, fun k _ hk => setRow_other w g k cs (fun e => hk (by rw [e]))⟩
theorem ints_apart {k : IntKind} {w w' : World} {v : Value} {zs : List Int} {r : Nat} (h : Ints k w v zs) (hg : w.grownBy w' (some r)) (hf : zs = [] ∨ ∀ k, v.ownBlock = some k → k ≠ r) : Ints k w' v zs := by
  rcases hf with rfl | hf
  · obtain ⟨⟨a, cap, b, off, h1, h2, h3, h4, h5, -⟩, -⟩ := h
    exact ⟨⟨a, cap, b, off, h1, h2, h3, h4, h5, At.nil _ _ _⟩, fun z hz => by cases hz⟩
  · exact h.grown hg (fun b e e' => hf b e (by injection e'))
theorem fail_pos (s : St) (x : Int) : (s.fail x).pos = s.pos ∧ (s.fail x).bs = s.bs ∧ (s.fail x).sh = s.sh ∧ (s.fail x).od = s.od := by
  unfold St.fail
  split <;> exact ⟨rfl, rfl, rfl, rfl⟩

theorem op_fail (B : Nat × Nat) (p : Nat) (s : St) (kind n : Int) (vB vw : Value) (ws : List Int) (w : World) (hc : Cur B w p s) (hB : B.2 ≤ w.heap.size) (hd : Ints .u8 w vB s.bs) (hfr : s.bs = [] ∨ ∀ k, vB.ownBlock = some k → k ≠ p) (hw : Ints .i64 w vw ws) (h0 : kind ≠ 0) (h1 : kind ≠ 1) (h2 : kind ≠ 2) (h3 : kind ≠ 3) (h4 : kind ≠ 4) :
    Calls Try.prog 44 #[.pointer (some ⟨p, 0, none⟩), .agg (docA vB s), .agg #[.int .i64 kind, .int .i64 n, vw]] w (OpOn B w p vB (s.fail n)) := by
  have hlt := hc.lt
  have HX := Lib.hid hd
  obtain ⟨a, cap, b, off, rfl, -⟩ := hd.open
  obtain ⟨a2, cap2, b2, off2, rfl, -⟩ := hw.open
  have HC := Lib.hid hc
  have HDoc := fun w' (hb : Ints .u8 w' (.slice a s.bs.length cap) s.bs) => Lib.hid (doc_fail (.slice a s.bs.length cap) s n w' hb)
  have HCur := fun w' (h : Cur B w' p s) => Lib.hid (cur_fail h n)
  generalize s.fail n = s1 at HDoc HCur ⊢
  have HBx : Hid (Below w.heap.size w (((w.alloc (.cells (docA (.slice a s.bs.length cap) s) 62)).alloc (.cells #[.int .i64 kind, .int .i64 n, .slice a2 ws.length cap2] 67)).alloc (.cells docZ 62))) := (below_al2 _ _).alloc (by simp; omega) _
  have HO0 : Hid ((((w.alloc (.cells (docA (.slice a s.bs.length cap) s) 62)).alloc (.cells #[.int .i64 kind, .int .i64 n, .slice a2 ws.length cap2] 67)).alloc (.cells docZ 62)).heap[w.heap.size + 1]? = some (.cells #[.int .i64 kind, .int .i64 n, .slice a2 ws.length cap2] 67 (0, 0))) := ((below_al (.cells docZ 62)).block _ (by simp)).trans (heap_alloc2_new _ _ _)
  have HD0 : Hid ((((w.alloc (.cells (docA (.slice a s.bs.length cap) s) 62)).alloc (.cells #[.int .i64 kind, .int .i64 n, .slice a2 ws.length cap2] 67)).alloc (.cells docZ 62)).heap[w.heap.size]? = some (.cells (docA (.slice a s.bs.length cap) s) 62 (0, 0))) := ((below_al (.cells docZ 62)).block _ (by simp; omega)).trans (((below_al (w := w.alloc (.cells (docA (.slice a s.bs.length cap) s) 62)) (.cells #[.int .i64 kind, .int .i64 n, .slice a2 ws.length cap2] 67)).block w.heap.size (by simp)).trans (heap_alloc_new _ _))
  have HZ0 : Hid ((((w.alloc (.cells (docA (.slice a s.bs.length cap) s) 62)).alloc (.cells #[.int .i64 kind, .int .i64 n, .slice a2 ws.length cap2] 67)).alloc (.cells docZ 62)).heap[w.heap.size + 1 + 1]? = some (.cells docZ 62 (0, 0))) := by
    have := heap_alloc_new ((w.alloc (.cells (docA (.slice a s.bs.length cap) s) 62)).alloc (.cells #[.int .i64 kind, .int .i64 n, .slice a2 ws.length cap2] 67)) (.cells docZ 62)
    rw [World.size_alloc, World.size_alloc] at this
    exact this
  have b0 : (kind == 0) = false := by simpa using h0
  have b1 : (kind == 1) = false := by simpa using h1
  have b2 : (kind == 2) = false := by simpa using h2
  have b3 : (kind == 3) = false := by simpa using h3
  have b4 : (kind == 4) = false := by simpa using h4
  have HCa := HCur (((w.alloc (.cells (docA (.slice a s.bs.length cap) s) 62)).alloc (.cells #[.int .i64 kind, .int .i64 n, .slice a2 ws.length cap2] 67)).alloc (.cells docZ 62)) (HC.out.below HBx.out)
  clear hc hd hw h0 h1 h2 h3 h4
  go_enter Try.func44, Try.ntmps44
  go_wp2_with fail
  (with_reducible refine HCa.out.mono ?_)
  rintro e1 w1 ⟨rfl, hc1, hg1⟩
  have HG1 := Lib.hid (grown_trans (grown_of_below HBx.out (some p)) hg1)
  have HC1 := Lib.hid hc1
  have HD1 := (hg1.block w.heap.size (by simp; omega) (by intro e; injection e; omega)).trans HD0.out
  have HO1 := (hg1.block (w.heap.size + 1) (by simp) (by intro e; injection e; omega)).trans HO0.out
  have HZ1 := Lib.hid ((hg1.block (w.heap.size + 1 + 1) (by simp) (by intro e; injection e; omega)).trans HZ0.out)
  have HX1 := Lib.hid (ints_apart HX.out HG1.out hfr)
  have o1 : w1.cell? ⟨w.heap.size + 1, 1, none⟩ = some (.int .i64 n) := cell_at HO1 1
  have k0 : w1.cell? ⟨w.heap.size, 0, none⟩ = some (.slice a s.bs.length cap) := cell_at HD1 0
  have k1 : w1.cell? ⟨w.heap.size, 1, none⟩ = some (.int .i64 s.pos) := cell_at HD1 1
  have k2 : w1.cell? ⟨w.heap.size, 2, none⟩ = some (.int .i64 s.sh) := cell_at HD1 2
  have k3 : w1.cell? ⟨w.heap.size, 3, none⟩ = some (.int .i64 s.od) := cell_at HD1 3
  have k4 : w1.cell? ⟨w.heap.size, 4, none⟩ = some (.int .i64 s.er) := cell_at HD1 4
  have HF := HDoc w1 HX1.out
  clear hc1 hg1 HD1 HO1
  go_wp2_with fail
  (with_reducible refine HF.out.mono ?_)
  rintro e1 w2 ⟨rfl, hb⟩
  have HG2 := Lib.hid (grown_trans HG1.out (grown_of_below hb (some p)))
  have HC2 := Lib.hid (HC1.out.below hb)
  have HZ2 := Lib.hid ((hb.block (w.heap.size + 1 + 1) (Array.getElem?_eq_some_iff.1 HZ1.out).1).trans HZ1.out)
  clear hb
  go_wp2_with (refine wpList_store_rowTo rfl 62 _ _ rfl rfl (w.heap.size + 1 + 1) #[.slice a s.bs.length cap, .int .i64 s1.pos, .int .i64 s1.sh, .int .i64 s1.od, .int .i64 s1.er] rfl rfl _ _ HZ2.out (by kernel_rfl) (by kernel_rfl) (by kernel_rfl) ?_; have hheap := setRow_heap w2 (w.heap.size + 1 + 1) _ #[.slice a s.bs.length cap, .int .i64 s1.pos, .int .i64 s1.sh, .int .i64 s1.od, .int .i64 s1.er] _ _ HZ2.out; have hgz := Lib.hid (grown_setR w2 (w.heap.size + 1 + 1) #[.slice a s.bs.length cap, .int .i64 s1.pos, .int .i64 s1.sh, .int .i64 s1.od, .int .i64 s1.er]))
  refine bodyPost_ret (res_tmp_row_tmp rfl _ _ (w.heap.size + 1 + 1) _ _ _ _ rfl hheap Try.underlying62 rfl (by kernel_rfl)) rfl ?_
  exact ⟨rfl, HC2.out.grown hgz.out (fun k e => .inr (by injection e with e; omega)), grown_new HG2.out hgz.out (by omega)⟩
end Go.Proofs.Ytdljlcbjpfgmcaa
