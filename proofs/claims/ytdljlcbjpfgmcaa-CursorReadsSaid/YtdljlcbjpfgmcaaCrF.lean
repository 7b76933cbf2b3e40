/- The walk of law 02's op, of the kinds Num, Row, Bytes, Rest, Fail. Conditions: none beyond each lemma's own. -/
import Derived.Test.YtdljlcbjpfgmcaaCrE
namespace Go.Proofs.Ytdljlcbjpfgmcaa
open Go.RowKit
set_option maxRecDepth 100000
set_option maxHeartbeats 4000000

theorem res_tmp_row_tmp {P : Program} {fn : Func} {p u v : Tmp} {ty : TypeId} (h : fn.results = #[.tmp u, .cell p ty, .tmp v]) (tmps : Array Value) (w : World) (g : Nat) (t : TypeId) (cs : Array Value) (fr : Nat × Nat) (d : TypeDesc)
    (hp : tmps.getD p undef = .pointer (some ⟨g, 0, none⟩)) (hg : w.heap[g]? = some (.cells cs t fr))
    (hu : P.underlying ty = some d) (hd : (match d with | .struct _ | .array _ _ => true | _ => false) = true) (hi : (P.info? ty).map (·.size) = some cs.size) :
    (results fn tmps).run P w = .ok (.tuple #[tmps.getD u undef, .agg cs, tmps.getD v undef]) w := by
  have hp' : tmps[p]?.getD undef = .pointer (some ⟨g, 0, none⟩) := by simpa using hp
  simp [results, h, hp', asAddr, run_loadVar_row w g t ty cs fr d hg hu hd hi]

theorem grown_new {w w2 w3 : World} {row : Option Nat} {g : Nat} (h : w.grownBy w2 row) (hg : w2.grownBy w3 (some g)) (hn : w.heap.size ≤ g) : w.grownBy w3 row :=
  ⟨hg.os.trans h.os, hg.tape.trans h.tape, hg.output.trans h.output, Nat.le_trans h.size hg.size, fun k hk hr => (hg.block k (Nat.lt_of_lt_of_le hk h.size) (fun e => by injection e with e; omega)).trans (h.block k hk hr)⟩
theorem nums_eq {va vb : Value} {l : List Int} {w : World} (h1 : Ints .u64 w va l) (h2 : Ints .u64 w vb l) : Calls Try.prog 28 #[va, vb] w fun e w' => e = .returned (.bool true) ∧ Below w.heap.size w w' := by
  have := ref_nums va vb l l w h1 h2
  rw [show decide (l = l) = true from decide_eq_true rfl] at this
  exact this
theorem bytes_eq {va vb : Value} {l : List Int} {w : World} (h1 : Ints .u8 w va l) (h2 : Ints .u8 w vb l) : Calls Try.prog 25 #[va, vb] w fun e w' => e = .returned (.bool true) ∧ Below w.heap.size w w' := by
  have := ref_bytes va vb l l w h1 h2
  rw [show decide (l = l) = true from decide_eq_true rfl] at this
  exact this

/-- What op hands back where it goes on with the same cursor. -/
def OpOn (B : Nat × Nat) (w : World) (p : Nat) (vB : Value) (s : St) (e : Ending) (w' : World) : Prop :=
  e = .returned (.tuple #[.pointer (some ⟨p, 0, none⟩), .agg (docA vB s), .bool true]) ∧ Cur B w' p s ∧ w.grownBy w' (some p)

theorem op_num (B : Nat × Nat) (p : Nat) (s : St) (n : Int) (vB vw : Value) (ws : List Int) (w : World) (hc : Cur B w p s) (hB : B.2 ≤ w.heap.size) (hd : Ints .u8 w vB s.bs) (hsh : s.sh ≠ 0) (hw : Ints .i64 w vw ws) (hn : (Lit.int .i64 n).wf = true) :
    Calls Try.prog 44 #[.pointer (some ⟨p, 0, none⟩), .agg (docA vB s), .agg #[.int .i64 0, .int .i64 n, vw]] w (OpOn B w p vB (s.num n).1) := by
  have _ := hsh
  have _ := hn
  have hlt := hc.lt
  have hps := hc.ok.1
  have hbd : s.bs.length ≤ 1000000000 := by obtain ⟨bv, -, -, h2, -⟩ := hc; exact h2.2
  have HX := Lib.hid hd
  have HW := Lib.hid hw
  obtain ⟨a, cap, b, off, rfl, -⟩ := hd.open
  obtain ⟨a2, cap2, b2, off2, rfl, -⟩ := hw.open
  have HDoc := fun w' (hb : Below w.heap.size w w') => Lib.hid (have _ := hb; doc_num (.slice a s.bs.length cap) s n w' (HX.out.below hb) hps hbd hn)
  have HCur := fun w' (hb : Below w.heap.size w w') (h : Cur B w' p s) => Lib.hid (have _ := hb; cur_num h n hn)
  have HC := Lib.hid hc
  skip
  generalize (s.num n).2 = x at HDoc HCur
  generalize (s.num n).1 = s1 at HDoc HCur ⊢
  have HBx : Hid (Below w.heap.size w (((w.alloc (.cells (docA (.slice a s.bs.length cap) s) 62)).alloc (.cells #[.int .i64 0, .int .i64 n, .slice a2 ws.length cap2] 67)).alloc (.cells docZ 62))) := (below_al2 _ _).alloc (by simp; omega) _
  have HO0 : Hid ((((w.alloc (.cells (docA (.slice a s.bs.length cap) s) 62)).alloc (.cells #[.int .i64 0, .int .i64 n, .slice a2 ws.length cap2] 67)).alloc (.cells docZ 62)).heap[w.heap.size + 1]? = some (.cells #[.int .i64 0, .int .i64 n, .slice a2 ws.length cap2] 67 (0, 0))) := ((below_al (.cells docZ 62)).block _ (by simp)).trans (heap_alloc2_new _ _ _)
  have HZ0 : Hid ((((w.alloc (.cells (docA (.slice a s.bs.length cap) s) 62)).alloc (.cells #[.int .i64 0, .int .i64 n, .slice a2 ws.length cap2] 67)).alloc (.cells docZ 62)).heap[w.heap.size + 1 + 1]? = some (.cells docZ 62 (0, 0))) := by
    have := heap_alloc_new ((w.alloc (.cells (docA (.slice a s.bs.length cap) s) 62)).alloc (.cells #[.int .i64 0, .int .i64 n, .slice a2 ws.length cap2] 67)) (.cells docZ 62)
    rw [World.size_alloc, World.size_alloc] at this
    exact this
  have HD0 := HDoc (((w.alloc (.cells (docA (.slice a s.bs.length cap) s) 62)).alloc (.cells #[.int .i64 0, .int .i64 n, .slice a2 ws.length cap2] 67)).alloc (.cells docZ 62)) HBx.out
  clear hc hd hw
  go_enter Try.func44, Try.ntmps44
  go_wp2_with fail
  (with_reducible refine HD0.out.mono ?_)
  rintro e1 w1 ⟨rfl, hb⟩
  have HB1 := Lib.hid (HBx.out.trans (hb.mono HBx.out.size))
  have HO1 := Lib.hid ((hb.block (w.heap.size + 1) (by simp)).trans HO0.out)
  have HZ1 := Lib.hid ((hb.block (w.heap.size + 1 + 1) (by simp)).trans HZ0.out)
  clear hb
  have hs1 : Hid (w.heap.size + 1 + 1 < w1.heap.size) := (Array.getElem?_eq_some_iff.1 HZ1.out).1
  have HBa : Hid (Below w.heap.size w (w1.alloc (.cells (docA (.slice a s.bs.length cap) s1) 62))) := HB1.out.alloc HB1.out.size _
  have HAa := Lib.hid (heap_alloc_new w1 (.cells (docA (.slice a s.bs.length cap) s1) 62))
  have HOa := Lib.hid (((below_al (.cells (docA (.slice a s.bs.length cap) s1) 62)).block (w.heap.size + 1) (by have := hs1.out; omega)).trans HO1.out)
  have HZa := Lib.hid (((below_al (.cells (docA (.slice a s.bs.length cap) s1) 62)).block (w.heap.size + 1 + 1) hs1.out).trans HZ1.out)
  have hsa : Hid (w1.heap.size < (w1.alloc (.cells (docA (.slice a s.bs.length cap) s1) 62)).heap.size) := by show _ < _; simp
  go_wp2_with fail
  generalize w1.alloc (.cells (docA (.slice a s.bs.length cap) s1) 62) = wa at HBa HAa HOa HZa hsa ⊢
  have HCa := HCur wa.drew (below_drewN HBa.out 1) ((HC.out.below HBa.out).drew 1)
  have o1 : wa.cell? ⟨w.heap.size + 1, 1, none⟩ = some (.int .i64 n) := cell_at HOa.out 1
  have o2 : wa.cell? ⟨w.heap.size + 1, 2, none⟩ = some (.slice a2 ws.length cap2) := cell_at HOa.out 2
  have k0 : wa.cell? ⟨w1.heap.size, 0, none⟩ = some (.slice a s.bs.length cap) := cell_at HAa.out 0
  have k1 : wa.cell? ⟨w1.heap.size, 1, none⟩ = some (.int .i64 s1.pos) := cell_at HAa.out 1
  have k2 : wa.cell? ⟨w1.heap.size, 2, none⟩ = some (.int .i64 s1.sh) := cell_at HAa.out 2
  have k3 : wa.cell? ⟨w1.heap.size, 3, none⟩ = some (.int .i64 s1.od) := cell_at HAa.out 3
  have k4 : wa.cell? ⟨w1.heap.size, 4, none⟩ = some (.int .i64 s1.er) := cell_at HAa.out 4
  have hpp : Hid (p < w.heap.size) := hlt
  have hxx : (x == x) = true := by simp
  first
  | go_region_law (first
      | (go_simp
         go_at_call 39
         (with_reducible refine HCa.out.mono ?_)
         rintro e1 w2 ⟨rfl, hc2, hg2⟩
         have hg := grown_trans (grown_of_below (below_drewN (Below.refl wa.heap.size wa) 1) (some p)) hg2
         have HG2 := Lib.hid hg
         have HC2 := Lib.hid hc2
         have HA2 := Lib.hid ((hg.block w1.heap.size hsa.out (by have := hpp.out; have := hs1.out; intro e; injection e; omega)).trans HAa.out)
         have HZ2 := Lib.hid ((hg.block (w.heap.size + 1 + 1) (by have := hs1.out; have := hsa.out; omega) (by have := hpp.out; intro e; injection e; omega)).trans HZa.out)
         clear hg hg2 hc2
         have m0 : w2.cell? ⟨w1.heap.size, 0, none⟩ = some (.slice a s.bs.length cap) := cell_at HA2.out 0
         have m1 : w2.cell? ⟨w1.heap.size, 1, none⟩ = some (.int .i64 s1.pos) := cell_at HA2.out 1
         have m2 : w2.cell? ⟨w1.heap.size, 2, none⟩ = some (.int .i64 s1.sh) := cell_at HA2.out 2
         have m3 : w2.cell? ⟨w1.heap.size, 3, none⟩ = some (.int .i64 s1.od) := cell_at HA2.out 3
         have m4 : w2.cell? ⟨w1.heap.size, 4, none⟩ = some (.int .i64 s1.er) := cell_at HA2.out 4
         have Zz0 : w2.cell? ⟨w.heap.size + 1 + 1, 0, none⟩ = some (.slice none 0 0) := cell_at HZ2.out 0
         have Zf0 : w2.frozen? ⟨w.heap.size + 1 + 1, 0, none⟩ = false := (by simp only [World.frozen?, HZ2.out]; rfl)
         have Zz1 : w2.cell? ⟨w.heap.size + 1 + 1, 1, none⟩ = some (.int .i64 0) := cell_at HZ2.out 1
         have Zf1 : w2.frozen? ⟨w.heap.size + 1 + 1, 1, none⟩ = false := (by simp only [World.frozen?, HZ2.out]; rfl)
         have Zz2 : w2.cell? ⟨w.heap.size + 1 + 1, 2, none⟩ = some (.int .i64 0) := cell_at HZ2.out 2
         have Zf2 : w2.frozen? ⟨w.heap.size + 1 + 1, 2, none⟩ = false := (by simp only [World.frozen?, HZ2.out]; rfl)
         have Zz3 : w2.cell? ⟨w.heap.size + 1 + 1, 3, none⟩ = some (.int .i64 0) := cell_at HZ2.out 3
         have Zf3 : w2.frozen? ⟨w.heap.size + 1 + 1, 3, none⟩ = false := (by simp only [World.frozen?, HZ2.out]; rfl)
         have Zz4 : w2.cell? ⟨w.heap.size + 1 + 1, 4, none⟩ = some (.int .i64 0) := cell_at HZ2.out 4
         have Zf4 : w2.frozen? ⟨w.heap.size + 1 + 1, 4, none⟩ = false := (by simp only [World.frozen?, HZ2.out]; rfl)
         skip))
  | fail
  all_goals go_wp2
  all_goals
    obtain ⟨yZ, gZ⟩ := rows5 HZ2.out (.slice a s.bs.length cap) (.int .i64 s1.pos) (.int .i64 s1.sh) (.int .i64 s1.od) (.int .i64 s1.er)
    refine bodyPost_ret (res_tmp_row_tmp rfl _ _ (w.heap.size + 1 + 1) _ _ _ _ rfl yZ Try.underlying62 rfl (by kernel_rfl)) rfl ?_
    exact ⟨rfl, HC2.out.grown gZ (fun k e => .inr (by injection e with e; omega)), grown_new (grown_trans (grown_of_below HBa.out (some p)) HG2.out) gZ (by omega)⟩

theorem op_row (B : Nat × Nat) (p : Nat) (s : St) (n : Int) (vB vw : Value) (ws : List Int) (w : World) (hc : Cur B w p s) (hB : B.2 ≤ w.heap.size) (hd : Ints .u8 w vB s.bs) (hsh : s.sh ≠ 0) (hw : Ints .i64 w vw ws) (hn : (Lit.int .i64 n).wf = true) :
    Calls Try.prog 44 #[.pointer (some ⟨p, 0, none⟩), .agg (docA vB s), .agg #[.int .i64 1, .int .i64 n, vw]] w (OpOn B w p vB (s.row ws).1) := by
  have _ := hsh
  have _ := hn
  have hlt := hc.lt
  have hps := hc.ok.1
  have hbd : s.bs.length ≤ 1000000000 := by obtain ⟨bv, -, -, h2, -⟩ := hc; exact h2.2
  have HX := Lib.hid hd
  have HW := Lib.hid hw
  obtain ⟨a, cap, b, off, rfl, -⟩ := hd.open
  obtain ⟨a2, cap2, b2, off2, rfl, -⟩ := hw.open
  have HDoc := fun w' (hb : Below w.heap.size w w') => Lib.hid (doc_row (.slice a s.bs.length cap) (.slice a2 ws.length cap2) s ws w' (HX.out.below hb) hps hbd (HW.out.below hb))
  have HCur := fun w' (hb : Below w.heap.size w w') (h : Cur B w' p s) => Lib.hid (cur_row h (.slice a2 ws.length cap2) ws (HW.out.below hb))
  have HC := Lib.hid hc
  have HXu := Lib.hid (row_u64 (ws := ws) hc.ok)
  generalize (s.row ws).2 = x at HDoc HCur HXu
  generalize (s.row ws).1 = s1 at HDoc HCur ⊢
  have HBx : Hid (Below w.heap.size w (((w.alloc (.cells (docA (.slice a s.bs.length cap) s) 62)).alloc (.cells #[.int .i64 1, .int .i64 n, .slice a2 ws.length cap2] 67)).alloc (.cells docZ 62))) := (below_al2 _ _).alloc (by simp; omega) _
  have HO0 : Hid ((((w.alloc (.cells (docA (.slice a s.bs.length cap) s) 62)).alloc (.cells #[.int .i64 1, .int .i64 n, .slice a2 ws.length cap2] 67)).alloc (.cells docZ 62)).heap[w.heap.size + 1]? = some (.cells #[.int .i64 1, .int .i64 n, .slice a2 ws.length cap2] 67 (0, 0))) := ((below_al (.cells docZ 62)).block _ (by simp)).trans (heap_alloc2_new _ _ _)
  have HZ0 : Hid ((((w.alloc (.cells (docA (.slice a s.bs.length cap) s) 62)).alloc (.cells #[.int .i64 1, .int .i64 n, .slice a2 ws.length cap2] 67)).alloc (.cells docZ 62)).heap[w.heap.size + 1 + 1]? = some (.cells docZ 62 (0, 0))) := by
    have := heap_alloc_new ((w.alloc (.cells (docA (.slice a s.bs.length cap) s) 62)).alloc (.cells #[.int .i64 1, .int .i64 n, .slice a2 ws.length cap2] 67)) (.cells docZ 62)
    rw [World.size_alloc, World.size_alloc] at this
    exact this
  have HD0 := HDoc (((w.alloc (.cells (docA (.slice a s.bs.length cap) s) 62)).alloc (.cells #[.int .i64 1, .int .i64 n, .slice a2 ws.length cap2] 67)).alloc (.cells docZ 62)) HBx.out
  clear hc hd hw
  go_enter Try.func44, Try.ntmps44
  go_wp2_with fail
  (with_reducible refine HD0.out.mono ?_)
  rintro e1 w1 ⟨vx, rfl, hx, hnx, hb⟩
  have HB1 := Lib.hid (HBx.out.trans (hb.mono HBx.out.size))
  have HO1 := Lib.hid ((hb.block (w.heap.size + 1) (by simp)).trans HO0.out)
  have HZ1 := Lib.hid ((hb.block (w.heap.size + 1 + 1) (by simp)).trans HZ0.out)
  have HVx := Lib.hid hx
  have hvf : Hid (New (w.heap.size + 3) vx) := fun k e => by have := hnx k e; simp at this; omega
  clear hnx
  obtain ⟨ax, cx, bx, ox, rfl, -⟩ := hx.open
  clear hx
  clear hb
  have hs1 : Hid (w.heap.size + 1 + 1 < w1.heap.size) := (Array.getElem?_eq_some_iff.1 HZ1.out).1
  have HBa : Hid (Below w.heap.size w (w1.alloc (.cells (docA (.slice a s.bs.length cap) s1) 62))) := HB1.out.alloc HB1.out.size _
  have HAa := Lib.hid (heap_alloc_new w1 (.cells (docA (.slice a s.bs.length cap) s1) 62))
  have HOa := Lib.hid (((below_al (.cells (docA (.slice a s.bs.length cap) s1) 62)).block (w.heap.size + 1) (by have := hs1.out; omega)).trans HO1.out)
  have HZa := Lib.hid (((below_al (.cells (docA (.slice a s.bs.length cap) s1) 62)).block (w.heap.size + 1 + 1) hs1.out).trans HZ1.out)
  have hsa : Hid (w1.heap.size < (w1.alloc (.cells (docA (.slice a s.bs.length cap) s1) 62)).heap.size) := by show _ < _; simp
  have HVa := Lib.hid (HVx.out.alloc (.cells (docA (.slice a s.bs.length cap) s1) 62))
  go_wp2_with fail
  generalize w1.alloc (.cells (docA (.slice a s.bs.length cap) s1) 62) = wa at HBa HAa HOa HZa hsa HVa ⊢
  have HCa := HCur wa.drew (below_drewN HBa.out 1) ((HC.out.below HBa.out).drew 1)
  have o1 : wa.cell? ⟨w.heap.size + 1, 1, none⟩ = some (.int .i64 n) := cell_at HOa.out 1
  have o2 : wa.cell? ⟨w.heap.size + 1, 2, none⟩ = some (.slice a2 ws.length cap2) := cell_at HOa.out 2
  have k0 : wa.cell? ⟨w1.heap.size, 0, none⟩ = some (.slice a s.bs.length cap) := cell_at HAa.out 0
  have k1 : wa.cell? ⟨w1.heap.size, 1, none⟩ = some (.int .i64 s1.pos) := cell_at HAa.out 1
  have k2 : wa.cell? ⟨w1.heap.size, 2, none⟩ = some (.int .i64 s1.sh) := cell_at HAa.out 2
  have k3 : wa.cell? ⟨w1.heap.size, 3, none⟩ = some (.int .i64 s1.od) := cell_at HAa.out 3
  have k4 : wa.cell? ⟨w1.heap.size, 4, none⟩ = some (.int .i64 s1.er) := cell_at HAa.out 4
  have hpp : Hid (p < w.heap.size) := hlt
  first
  | go_region_law (first
      | (go_simp
         go_at_call 67
         (with_reducible refine HCa.out.mono ?_)
         rintro e1 w2 ⟨vy, rfl, hy, hc2, hg2⟩
         have hg := grown_trans (grown_of_below (below_drewN (Below.refl wa.heap.size wa) 1) (some p)) hg2
         have HG2 := Lib.hid hg
         have HC2 := Lib.hid hc2
         have HA2 := Lib.hid ((hg.block w1.heap.size hsa.out (by have := hpp.out; have := hs1.out; intro e; injection e; omega)).trans HAa.out)
         have HZ2 := Lib.hid ((hg.block (w.heap.size + 1 + 1) (by have := hs1.out; have := hsa.out; omega) (by have := hpp.out; intro e; injection e; omega)).trans HZa.out)
         have HVx2 := Lib.hid (HVa.out.grown hg (fun k e e' => by have := hvf.out k e; have := hpp.out; injection e' with e'; omega))
         have HVy2 := Lib.hid (Ints.of_own hy HXu.out.wf)
         obtain ⟨ay, cy, hvy⟩ := own_slice hy
         subst hvy
         clear hg hg2 hc2 hy
         have m0 : w2.cell? ⟨w1.heap.size, 0, none⟩ = some (.slice a s.bs.length cap) := cell_at HA2.out 0
         have m1 : w2.cell? ⟨w1.heap.size, 1, none⟩ = some (.int .i64 s1.pos) := cell_at HA2.out 1
         have m2 : w2.cell? ⟨w1.heap.size, 2, none⟩ = some (.int .i64 s1.sh) := cell_at HA2.out 2
         have m3 : w2.cell? ⟨w1.heap.size, 3, none⟩ = some (.int .i64 s1.od) := cell_at HA2.out 3
         have m4 : w2.cell? ⟨w1.heap.size, 4, none⟩ = some (.int .i64 s1.er) := cell_at HA2.out 4
         have Zz0 : w2.cell? ⟨w.heap.size + 1 + 1, 0, none⟩ = some (.slice none 0 0) := cell_at HZ2.out 0
         have Zf0 : w2.frozen? ⟨w.heap.size + 1 + 1, 0, none⟩ = false := (by simp only [World.frozen?, HZ2.out]; rfl)
         have Zz1 : w2.cell? ⟨w.heap.size + 1 + 1, 1, none⟩ = some (.int .i64 0) := cell_at HZ2.out 1
         have Zf1 : w2.frozen? ⟨w.heap.size + 1 + 1, 1, none⟩ = false := (by simp only [World.frozen?, HZ2.out]; rfl)
         have Zz2 : w2.cell? ⟨w.heap.size + 1 + 1, 2, none⟩ = some (.int .i64 0) := cell_at HZ2.out 2
         have Zf2 : w2.frozen? ⟨w.heap.size + 1 + 1, 2, none⟩ = false := (by simp only [World.frozen?, HZ2.out]; rfl)
         have Zz3 : w2.cell? ⟨w.heap.size + 1 + 1, 3, none⟩ = some (.int .i64 0) := cell_at HZ2.out 3
         have Zf3 : w2.frozen? ⟨w.heap.size + 1 + 1, 3, none⟩ = false := (by simp only [World.frozen?, HZ2.out]; rfl)
         have Zz4 : w2.cell? ⟨w.heap.size + 1 + 1, 4, none⟩ = some (.int .i64 0) := cell_at HZ2.out 4
         have Zf4 : w2.frozen? ⟨w.heap.size + 1 + 1, 4, none⟩ = false := (by simp only [World.frozen?, HZ2.out]; rfl)
         skip)
      | (go_simp
         go_at_call 28
         (with_reducible refine (nums_eq HVy2.out HVx2.out).mono ?_)
         rintro e1 w3 ⟨rfl, hb⟩
         have HG3 := Lib.hid (grown_trans HG2.out (grown_of_below hb (some p)))
         have HC3 := Lib.hid (HC2.out.below hb)
         have HA3 := Lib.hid ((hb.block w1.heap.size (Array.getElem?_eq_some_iff.1 HA2.out).1).trans HA2.out)
         have HZ3 := Lib.hid ((hb.block (w.heap.size + 1 + 1) (Array.getElem?_eq_some_iff.1 HZ2.out).1).trans HZ2.out)
         clear hb
         have q0 : w3.cell? ⟨w1.heap.size, 0, none⟩ = some (.slice a s.bs.length cap) := cell_at HA3.out 0
         have q1 : w3.cell? ⟨w1.heap.size, 1, none⟩ = some (.int .i64 s1.pos) := cell_at HA3.out 1
         have q2 : w3.cell? ⟨w1.heap.size, 2, none⟩ = some (.int .i64 s1.sh) := cell_at HA3.out 2
         have q3 : w3.cell? ⟨w1.heap.size, 3, none⟩ = some (.int .i64 s1.od) := cell_at HA3.out 3
         have q4 : w3.cell? ⟨w1.heap.size, 4, none⟩ = some (.int .i64 s1.er) := cell_at HA3.out 4
         have Yz0 : w3.cell? ⟨w.heap.size + 1 + 1, 0, none⟩ = some (.slice none 0 0) := cell_at HZ3.out 0
         have Yf0 : w3.frozen? ⟨w.heap.size + 1 + 1, 0, none⟩ = false := (by simp only [World.frozen?, HZ3.out]; rfl)
         have Yz1 : w3.cell? ⟨w.heap.size + 1 + 1, 1, none⟩ = some (.int .i64 0) := cell_at HZ3.out 1
         have Yf1 : w3.frozen? ⟨w.heap.size + 1 + 1, 1, none⟩ = false := (by simp only [World.frozen?, HZ3.out]; rfl)
         have Yz2 : w3.cell? ⟨w.heap.size + 1 + 1, 2, none⟩ = some (.int .i64 0) := cell_at HZ3.out 2
         have Yf2 : w3.frozen? ⟨w.heap.size + 1 + 1, 2, none⟩ = false := (by simp only [World.frozen?, HZ3.out]; rfl)
         have Yz3 : w3.cell? ⟨w.heap.size + 1 + 1, 3, none⟩ = some (.int .i64 0) := cell_at HZ3.out 3
         have Yf3 : w3.frozen? ⟨w.heap.size + 1 + 1, 3, none⟩ = false := (by simp only [World.frozen?, HZ3.out]; rfl)
         have Yz4 : w3.cell? ⟨w.heap.size + 1 + 1, 4, none⟩ = some (.int .i64 0) := cell_at HZ3.out 4
         have Yf4 : w3.frozen? ⟨w.heap.size + 1 + 1, 4, none⟩ = false := (by simp only [World.frozen?, HZ3.out]; rfl)
         skip))
  | fail
  all_goals go_wp2
  all_goals
    obtain ⟨yZ, gZ⟩ := rows5 HZ3.out (.slice a s.bs.length cap) (.int .i64 s1.pos) (.int .i64 s1.sh) (.int .i64 s1.od) (.int .i64 s1.er)
    refine bodyPost_ret (res_tmp_row_tmp rfl _ _ (w.heap.size + 1 + 1) _ _ _ _ rfl yZ Try.underlying62 rfl (by kernel_rfl)) rfl ?_
    exact ⟨rfl, HC3.out.grown gZ (fun k e => .inr (by injection e with e; omega)), grown_new (grown_trans (grown_of_below HBa.out (some p)) HG3.out) gZ (by omega)⟩

theorem op_bytes (B : Nat × Nat) (p : Nat) (s : St) (n : Int) (vB vw : Value) (ws : List Int) (w : World) (hc : Cur B w p s) (hB : B.2 ≤ w.heap.size) (hd : Ints .u8 w vB s.bs) (hsh : s.sh ≠ 0) (hw : Ints .i64 w vw ws) (hn : (Lit.int .i64 n).wf = true) :
    Calls Try.prog 44 #[.pointer (some ⟨p, 0, none⟩), .agg (docA vB s), .agg #[.int .i64 2, .int .i64 n, vw]] w (OpOn B w p vB (s.bytes n).1) := by
  have _ := hsh
  have _ := hn
  have hlt := hc.lt
  have hps := hc.ok.1
  have hbd : s.bs.length ≤ 1000000000 := by obtain ⟨bv, -, -, h2, -⟩ := hc; exact h2.2
  have HX := Lib.hid hd
  have HW := Lib.hid hw
  obtain ⟨a, cap, b, off, rfl, -⟩ := hd.open
  obtain ⟨a2, cap2, b2, off2, rfl, -⟩ := hw.open
  have HDoc := fun w' (hb : Below w.heap.size w w') => Lib.hid (doc_bytes (.slice a s.bs.length cap) s n w' (HX.out.below hb) hps hbd)
  have HCur := fun w' (hb : Below w.heap.size w w') (h : Cur B w' p s) => Lib.hid (have _ := hb; cur_bytes h hsh n hn)
  have HC := Lib.hid hc
  skip
  generalize (s.bytes n).2 = x at HDoc HCur
  generalize (s.bytes n).1 = s1 at HDoc HCur ⊢
  have HBx : Hid (Below w.heap.size w (((w.alloc (.cells (docA (.slice a s.bs.length cap) s) 62)).alloc (.cells #[.int .i64 2, .int .i64 n, .slice a2 ws.length cap2] 67)).alloc (.cells docZ 62))) := (below_al2 _ _).alloc (by simp; omega) _
  have HO0 : Hid ((((w.alloc (.cells (docA (.slice a s.bs.length cap) s) 62)).alloc (.cells #[.int .i64 2, .int .i64 n, .slice a2 ws.length cap2] 67)).alloc (.cells docZ 62)).heap[w.heap.size + 1]? = some (.cells #[.int .i64 2, .int .i64 n, .slice a2 ws.length cap2] 67 (0, 0))) := ((below_al (.cells docZ 62)).block _ (by simp)).trans (heap_alloc2_new _ _ _)
  have HZ0 : Hid ((((w.alloc (.cells (docA (.slice a s.bs.length cap) s) 62)).alloc (.cells #[.int .i64 2, .int .i64 n, .slice a2 ws.length cap2] 67)).alloc (.cells docZ 62)).heap[w.heap.size + 1 + 1]? = some (.cells docZ 62 (0, 0))) := by
    have := heap_alloc_new ((w.alloc (.cells (docA (.slice a s.bs.length cap) s) 62)).alloc (.cells #[.int .i64 2, .int .i64 n, .slice a2 ws.length cap2] 67)) (.cells docZ 62)
    rw [World.size_alloc, World.size_alloc] at this
    exact this
  have HD0 := HDoc (((w.alloc (.cells (docA (.slice a s.bs.length cap) s) 62)).alloc (.cells #[.int .i64 2, .int .i64 n, .slice a2 ws.length cap2] 67)).alloc (.cells docZ 62)) HBx.out
  clear hc hd hw
  go_enter Try.func44, Try.ntmps44
  go_wp2_with fail
  (with_reducible refine HD0.out.mono ?_)
  rintro e1 w1 ⟨vx, rfl, hx, hnx, hb⟩
  have HB1 := Lib.hid (HBx.out.trans (hb.mono HBx.out.size))
  have HO1 := Lib.hid ((hb.block (w.heap.size + 1) (by simp)).trans HO0.out)
  have HZ1 := Lib.hid ((hb.block (w.heap.size + 1 + 1) (by simp)).trans HZ0.out)
  have HVx := Lib.hid hx
  have hvf : Hid (New (w.heap.size + 3) vx) := fun k e => by have := hnx k e; simp at this; omega
  clear hnx
  obtain ⟨ax, cx, bx, ox, rfl, -⟩ := hx.open
  clear hx
  clear hb
  have hs1 : Hid (w.heap.size + 1 + 1 < w1.heap.size) := (Array.getElem?_eq_some_iff.1 HZ1.out).1
  have HBa : Hid (Below w.heap.size w (w1.alloc (.cells (docA (.slice a s.bs.length cap) s1) 62))) := HB1.out.alloc HB1.out.size _
  have HAa := Lib.hid (heap_alloc_new w1 (.cells (docA (.slice a s.bs.length cap) s1) 62))
  have HOa := Lib.hid (((below_al (.cells (docA (.slice a s.bs.length cap) s1) 62)).block (w.heap.size + 1) (by have := hs1.out; omega)).trans HO1.out)
  have HZa := Lib.hid (((below_al (.cells (docA (.slice a s.bs.length cap) s1) 62)).block (w.heap.size + 1 + 1) hs1.out).trans HZ1.out)
  have hsa : Hid (w1.heap.size < (w1.alloc (.cells (docA (.slice a s.bs.length cap) s1) 62)).heap.size) := by show _ < _; simp
  have HVa := Lib.hid (HVx.out.alloc (.cells (docA (.slice a s.bs.length cap) s1) 62))
  go_wp2_with fail
  generalize w1.alloc (.cells (docA (.slice a s.bs.length cap) s1) 62) = wa at HBa HAa HOa HZa hsa HVa ⊢
  have HCa := HCur wa.drew (below_drewN HBa.out 1) ((HC.out.below HBa.out).drew 1)
  have o1 : wa.cell? ⟨w.heap.size + 1, 1, none⟩ = some (.int .i64 n) := cell_at HOa.out 1
  have o2 : wa.cell? ⟨w.heap.size + 1, 2, none⟩ = some (.slice a2 ws.length cap2) := cell_at HOa.out 2
  have k0 : wa.cell? ⟨w1.heap.size, 0, none⟩ = some (.slice a s.bs.length cap) := cell_at HAa.out 0
  have k1 : wa.cell? ⟨w1.heap.size, 1, none⟩ = some (.int .i64 s1.pos) := cell_at HAa.out 1
  have k2 : wa.cell? ⟨w1.heap.size, 2, none⟩ = some (.int .i64 s1.sh) := cell_at HAa.out 2
  have k3 : wa.cell? ⟨w1.heap.size, 3, none⟩ = some (.int .i64 s1.od) := cell_at HAa.out 3
  have k4 : wa.cell? ⟨w1.heap.size, 4, none⟩ = some (.int .i64 s1.er) := cell_at HAa.out 4
  have hpp : Hid (p < w.heap.size) := hlt
  first
  | go_region_law (first
      | (go_simp
         go_at_call 40
         (with_reducible refine HCa.out.mono ?_)
         rintro e1 w2 ⟨vy, rfl, hy, huy, hc2, hg2⟩
         have hg := grown_trans (grown_of_below (below_drewN (Below.refl wa.heap.size wa) 1) (some p)) hg2
         have HG2 := Lib.hid hg
         have HC2 := Lib.hid hc2
         have HA2 := Lib.hid ((hg.block w1.heap.size hsa.out (by have := hpp.out; have := hs1.out; intro e; injection e; omega)).trans HAa.out)
         have HZ2 := Lib.hid ((hg.block (w.heap.size + 1 + 1) (by have := hs1.out; have := hsa.out; omega) (by have := hpp.out; intro e; injection e; omega)).trans HZa.out)
         have HVx2 := Lib.hid (HVa.out.grown hg (fun k e e' => by have := hvf.out k e; have := hpp.out; injection e' with e'; omega))
         have HVy2 := Lib.hid (Ints.of_own hy huy.wf)
         obtain ⟨ay, cy, hvy⟩ := own_slice hy
         subst hvy
         clear hg hg2 hc2 hy
         have m0 : w2.cell? ⟨w1.heap.size, 0, none⟩ = some (.slice a s.bs.length cap) := cell_at HA2.out 0
         have m1 : w2.cell? ⟨w1.heap.size, 1, none⟩ = some (.int .i64 s1.pos) := cell_at HA2.out 1
         have m2 : w2.cell? ⟨w1.heap.size, 2, none⟩ = some (.int .i64 s1.sh) := cell_at HA2.out 2
         have m3 : w2.cell? ⟨w1.heap.size, 3, none⟩ = some (.int .i64 s1.od) := cell_at HA2.out 3
         have m4 : w2.cell? ⟨w1.heap.size, 4, none⟩ = some (.int .i64 s1.er) := cell_at HA2.out 4
         have Zz0 : w2.cell? ⟨w.heap.size + 1 + 1, 0, none⟩ = some (.slice none 0 0) := cell_at HZ2.out 0
         have Zf0 : w2.frozen? ⟨w.heap.size + 1 + 1, 0, none⟩ = false := (by simp only [World.frozen?, HZ2.out]; rfl)
         have Zz1 : w2.cell? ⟨w.heap.size + 1 + 1, 1, none⟩ = some (.int .i64 0) := cell_at HZ2.out 1
         have Zf1 : w2.frozen? ⟨w.heap.size + 1 + 1, 1, none⟩ = false := (by simp only [World.frozen?, HZ2.out]; rfl)
         have Zz2 : w2.cell? ⟨w.heap.size + 1 + 1, 2, none⟩ = some (.int .i64 0) := cell_at HZ2.out 2
         have Zf2 : w2.frozen? ⟨w.heap.size + 1 + 1, 2, none⟩ = false := (by simp only [World.frozen?, HZ2.out]; rfl)
         have Zz3 : w2.cell? ⟨w.heap.size + 1 + 1, 3, none⟩ = some (.int .i64 0) := cell_at HZ2.out 3
         have Zf3 : w2.frozen? ⟨w.heap.size + 1 + 1, 3, none⟩ = false := (by simp only [World.frozen?, HZ2.out]; rfl)
         have Zz4 : w2.cell? ⟨w.heap.size + 1 + 1, 4, none⟩ = some (.int .i64 0) := cell_at HZ2.out 4
         have Zf4 : w2.frozen? ⟨w.heap.size + 1 + 1, 4, none⟩ = false := (by simp only [World.frozen?, HZ2.out]; rfl)
         skip)
      | (go_simp
         go_at_call 25
         (with_reducible refine (bytes_eq HVy2.out HVx2.out).mono ?_)
         rintro e1 w3 ⟨rfl, hb⟩
         have HG3 := Lib.hid (grown_trans HG2.out (grown_of_below hb (some p)))
         have HC3 := Lib.hid (HC2.out.below hb)
         have HA3 := Lib.hid ((hb.block w1.heap.size (Array.getElem?_eq_some_iff.1 HA2.out).1).trans HA2.out)
         have HZ3 := Lib.hid ((hb.block (w.heap.size + 1 + 1) (Array.getElem?_eq_some_iff.1 HZ2.out).1).trans HZ2.out)
         clear hb
         have q0 : w3.cell? ⟨w1.heap.size, 0, none⟩ = some (.slice a s.bs.length cap) := cell_at HA3.out 0
         have q1 : w3.cell? ⟨w1.heap.size, 1, none⟩ = some (.int .i64 s1.pos) := cell_at HA3.out 1
         have q2 : w3.cell? ⟨w1.heap.size, 2, none⟩ = some (.int .i64 s1.sh) := cell_at HA3.out 2
         have q3 : w3.cell? ⟨w1.heap.size, 3, none⟩ = some (.int .i64 s1.od) := cell_at HA3.out 3
         have q4 : w3.cell? ⟨w1.heap.size, 4, none⟩ = some (.int .i64 s1.er) := cell_at HA3.out 4
         have Yz0 : w3.cell? ⟨w.heap.size + 1 + 1, 0, none⟩ = some (.slice none 0 0) := cell_at HZ3.out 0
         have Yf0 : w3.frozen? ⟨w.heap.size + 1 + 1, 0, none⟩ = false := (by simp only [World.frozen?, HZ3.out]; rfl)
         have Yz1 : w3.cell? ⟨w.heap.size + 1 + 1, 1, none⟩ = some (.int .i64 0) := cell_at HZ3.out 1
         have Yf1 : w3.frozen? ⟨w.heap.size + 1 + 1, 1, none⟩ = false := (by simp only [World.frozen?, HZ3.out]; rfl)
         have Yz2 : w3.cell? ⟨w.heap.size + 1 + 1, 2, none⟩ = some (.int .i64 0) := cell_at HZ3.out 2
         have Yf2 : w3.frozen? ⟨w.heap.size + 1 + 1, 2, none⟩ = false := (by simp only [World.frozen?, HZ3.out]; rfl)
         have Yz3 : w3.cell? ⟨w.heap.size + 1 + 1, 3, none⟩ = some (.int .i64 0) := cell_at HZ3.out 3
         have Yf3 : w3.frozen? ⟨w.heap.size + 1 + 1, 3, none⟩ = false := (by simp only [World.frozen?, HZ3.out]; rfl)
         have Yz4 : w3.cell? ⟨w.heap.size + 1 + 1, 4, none⟩ = some (.int .i64 0) := cell_at HZ3.out 4
         have Yf4 : w3.frozen? ⟨w.heap.size + 1 + 1, 4, none⟩ = false := (by simp only [World.frozen?, HZ3.out]; rfl)
         skip))
  | fail
  all_goals go_wp2
  all_goals
    obtain ⟨yZ, gZ⟩ := rows5 HZ3.out (.slice a s.bs.length cap) (.int .i64 s1.pos) (.int .i64 s1.sh) (.int .i64 s1.od) (.int .i64 s1.er)
    refine bodyPost_ret (res_tmp_row_tmp rfl _ _ (w.heap.size + 1 + 1) _ _ _ _ rfl yZ Try.underlying62 rfl (by kernel_rfl)) rfl ?_
    exact ⟨rfl, HC3.out.grown gZ (fun k e => .inr (by injection e with e; omega)), grown_new (grown_trans (grown_of_below HBa.out (some p)) HG3.out) gZ (by omega)⟩

theorem op_rest (B : Nat × Nat) (p : Nat) (s : St) (n : Int) (vB vw : Value) (ws : List Int) (w : World) (hc : Cur B w p s) (hB : B.2 ≤ w.heap.size) (hd : Ints .u8 w vB s.bs) (hsh : s.sh ≠ 0) (hw : Ints .i64 w vw ws) (hn : (Lit.int .i64 n).wf = true) :
    Calls Try.prog 44 #[.pointer (some ⟨p, 0, none⟩), .agg (docA vB s), .agg #[.int .i64 3, .int .i64 n, vw]] w (OpOn B w p vB (s.bytes s.left).1) := by
  have _ := hsh
  have _ := hn
  have hlt := hc.lt
  have hps := hc.ok.1
  have hbd : s.bs.length ≤ 1000000000 := by obtain ⟨bv, -, -, h2, -⟩ := hc; exact h2.2
  have HX := Lib.hid hd
  have HW := Lib.hid hw
  obtain ⟨a, cap, b, off, rfl, -⟩ := hd.open
  obtain ⟨a2, cap2, b2, off2, rfl, -⟩ := hw.open
  have HDoc := fun w' (hb : Below w.heap.size w w') => Lib.hid (doc_rest (.slice a s.bs.length cap) s w' (HX.out.below hb) hps hbd)
  have HCur := fun w' (hb : Below w.heap.size w w') (h : Cur B w' p s) => Lib.hid (have _ := hb; cur_rest h hsh)
  have HC := Lib.hid hc
  skip
  generalize (s.bytes s.left).2 = x at HDoc HCur
  generalize (s.bytes s.left).1 = s1 at HDoc HCur ⊢
  have HBx : Hid (Below w.heap.size w (((w.alloc (.cells (docA (.slice a s.bs.length cap) s) 62)).alloc (.cells #[.int .i64 3, .int .i64 n, .slice a2 ws.length cap2] 67)).alloc (.cells docZ 62))) := (below_al2 _ _).alloc (by simp; omega) _
  have HO0 : Hid ((((w.alloc (.cells (docA (.slice a s.bs.length cap) s) 62)).alloc (.cells #[.int .i64 3, .int .i64 n, .slice a2 ws.length cap2] 67)).alloc (.cells docZ 62)).heap[w.heap.size + 1]? = some (.cells #[.int .i64 3, .int .i64 n, .slice a2 ws.length cap2] 67 (0, 0))) := ((below_al (.cells docZ 62)).block _ (by simp)).trans (heap_alloc2_new _ _ _)
  have HZ0 : Hid ((((w.alloc (.cells (docA (.slice a s.bs.length cap) s) 62)).alloc (.cells #[.int .i64 3, .int .i64 n, .slice a2 ws.length cap2] 67)).alloc (.cells docZ 62)).heap[w.heap.size + 1 + 1]? = some (.cells docZ 62 (0, 0))) := by
    have := heap_alloc_new ((w.alloc (.cells (docA (.slice a s.bs.length cap) s) 62)).alloc (.cells #[.int .i64 3, .int .i64 n, .slice a2 ws.length cap2] 67)) (.cells docZ 62)
    rw [World.size_alloc, World.size_alloc] at this
    exact this
  have HD0 := HDoc (((w.alloc (.cells (docA (.slice a s.bs.length cap) s) 62)).alloc (.cells #[.int .i64 3, .int .i64 n, .slice a2 ws.length cap2] 67)).alloc (.cells docZ 62)) HBx.out
  clear hc hd hw
  go_enter Try.func44, Try.ntmps44
  go_wp2_with fail
  (with_reducible refine HD0.out.mono ?_)
  rintro e1 w1 ⟨vx, rfl, hx, hnx, hb⟩
  have HB1 := Lib.hid (HBx.out.trans (hb.mono HBx.out.size))
  have HO1 := Lib.hid ((hb.block (w.heap.size + 1) (by simp)).trans HO0.out)
  have HZ1 := Lib.hid ((hb.block (w.heap.size + 1 + 1) (by simp)).trans HZ0.out)
  have HVx := Lib.hid hx
  have hvf : Hid (New (w.heap.size + 3) vx) := fun k e => by have := hnx k e; simp at this; omega
  clear hnx
  obtain ⟨ax, cx, bx, ox, rfl, -⟩ := hx.open
  clear hx
  clear hb
  have hs1 : Hid (w.heap.size + 1 + 1 < w1.heap.size) := (Array.getElem?_eq_some_iff.1 HZ1.out).1
  have HBa : Hid (Below w.heap.size w (w1.alloc (.cells (docA (.slice a s.bs.length cap) s1) 62))) := HB1.out.alloc HB1.out.size _
  have HAa := Lib.hid (heap_alloc_new w1 (.cells (docA (.slice a s.bs.length cap) s1) 62))
  have HOa := Lib.hid (((below_al (.cells (docA (.slice a s.bs.length cap) s1) 62)).block (w.heap.size + 1) (by have := hs1.out; omega)).trans HO1.out)
  have HZa := Lib.hid (((below_al (.cells (docA (.slice a s.bs.length cap) s1) 62)).block (w.heap.size + 1 + 1) hs1.out).trans HZ1.out)
  have hsa : Hid (w1.heap.size < (w1.alloc (.cells (docA (.slice a s.bs.length cap) s1) 62)).heap.size) := by show _ < _; simp
  have HVa := Lib.hid (HVx.out.alloc (.cells (docA (.slice a s.bs.length cap) s1) 62))
  go_wp2_with fail
  generalize w1.alloc (.cells (docA (.slice a s.bs.length cap) s1) 62) = wa at HBa HAa HOa HZa hsa HVa ⊢
  have HCa := HCur wa.drew (below_drewN HBa.out 1) ((HC.out.below HBa.out).drew 1)
  have o1 : wa.cell? ⟨w.heap.size + 1, 1, none⟩ = some (.int .i64 n) := cell_at HOa.out 1
  have o2 : wa.cell? ⟨w.heap.size + 1, 2, none⟩ = some (.slice a2 ws.length cap2) := cell_at HOa.out 2
  have k0 : wa.cell? ⟨w1.heap.size, 0, none⟩ = some (.slice a s.bs.length cap) := cell_at HAa.out 0
  have k1 : wa.cell? ⟨w1.heap.size, 1, none⟩ = some (.int .i64 s1.pos) := cell_at HAa.out 1
  have k2 : wa.cell? ⟨w1.heap.size, 2, none⟩ = some (.int .i64 s1.sh) := cell_at HAa.out 2
  have k3 : wa.cell? ⟨w1.heap.size, 3, none⟩ = some (.int .i64 s1.od) := cell_at HAa.out 3
  have k4 : wa.cell? ⟨w1.heap.size, 4, none⟩ = some (.int .i64 s1.er) := cell_at HAa.out 4
  have hpp : Hid (p < w.heap.size) := hlt
  first
  | go_region_law (first
      | (go_simp
         go_at_call 38
         (with_reducible refine HCa.out.mono ?_)
         rintro e1 w2 ⟨vy, rfl, hy, huy, hc2, hg2⟩
         have hg := grown_trans (grown_of_below (below_drewN (Below.refl wa.heap.size wa) 1) (some p)) hg2
         have HG2 := Lib.hid hg
         have HC2 := Lib.hid hc2
         have HA2 := Lib.hid ((hg.block w1.heap.size hsa.out (by have := hpp.out; have := hs1.out; intro e; injection e; omega)).trans HAa.out)
         have HZ2 := Lib.hid ((hg.block (w.heap.size + 1 + 1) (by have := hs1.out; have := hsa.out; omega) (by have := hpp.out; intro e; injection e; omega)).trans HZa.out)
         have HVx2 := Lib.hid (HVa.out.grown hg (fun k e e' => by have := hvf.out k e; have := hpp.out; injection e' with e'; omega))
         have HVy2 := Lib.hid (Ints.of_own hy huy.wf)
         obtain ⟨ay, cy, hvy⟩ := own_slice hy
         subst hvy
         clear hg hg2 hc2 hy
         have m0 : w2.cell? ⟨w1.heap.size, 0, none⟩ = some (.slice a s.bs.length cap) := cell_at HA2.out 0
         have m1 : w2.cell? ⟨w1.heap.size, 1, none⟩ = some (.int .i64 s1.pos) := cell_at HA2.out 1
         have m2 : w2.cell? ⟨w1.heap.size, 2, none⟩ = some (.int .i64 s1.sh) := cell_at HA2.out 2
         have m3 : w2.cell? ⟨w1.heap.size, 3, none⟩ = some (.int .i64 s1.od) := cell_at HA2.out 3
         have m4 : w2.cell? ⟨w1.heap.size, 4, none⟩ = some (.int .i64 s1.er) := cell_at HA2.out 4
         have Zz0 : w2.cell? ⟨w.heap.size + 1 + 1, 0, none⟩ = some (.slice none 0 0) := cell_at HZ2.out 0
         have Zf0 : w2.frozen? ⟨w.heap.size + 1 + 1, 0, none⟩ = false := (by simp only [World.frozen?, HZ2.out]; rfl)
         have Zz1 : w2.cell? ⟨w.heap.size + 1 + 1, 1, none⟩ = some (.int .i64 0) := cell_at HZ2.out 1
         have Zf1 : w2.frozen? ⟨w.heap.size + 1 + 1, 1, none⟩ = false := (by simp only [World.frozen?, HZ2.out]; rfl)
         have Zz2 : w2.cell? ⟨w.heap.size + 1 + 1, 2, none⟩ = some (.int .i64 0) := cell_at HZ2.out 2
         have Zf2 : w2.frozen? ⟨w.heap.size + 1 + 1, 2, none⟩ = false := (by simp only [World.frozen?, HZ2.out]; rfl)
         have Zz3 : w2.cell? ⟨w.heap.size + 1 + 1, 3, none⟩ = some (.int .i64 0) := cell_at HZ2.out 3
         have Zf3 : w2.frozen? ⟨w.heap.size + 1 + 1, 3, none⟩ = false := (by simp only [World.frozen?, HZ2.out]; rfl)
         have Zz4 : w2.cell? ⟨w.heap.size + 1 + 1, 4, none⟩ = some (.int .i64 0) := cell_at HZ2.out 4
         have Zf4 : w2.frozen? ⟨w.heap.size + 1 + 1, 4, none⟩ = false := (by simp only [World.frozen?, HZ2.out]; rfl)
         skip)
      | (go_simp
         go_at_call 25
         (with_reducible refine (bytes_eq HVy2.out HVx2.out).mono ?_)
         rintro e1 w3 ⟨rfl, hb⟩
         have HG3 := Lib.hid (grown_trans HG2.out (grown_of_below hb (some p)))
         have HC3 := Lib.hid (HC2.out.below hb)
         have HA3 := Lib.hid ((hb.block w1.heap.size (Array.getElem?_eq_some_iff.1 HA2.out).1).trans HA2.out)
         have HZ3 := Lib.hid ((hb.block (w.heap.size + 1 + 1) (Array.getElem?_eq_some_iff.1 HZ2.out).1).trans HZ2.out)
         clear hb
         have q0 : w3.cell? ⟨w1.heap.size, 0, none⟩ = some (.slice a s.bs.length cap) := cell_at HA3.out 0
         have q1 : w3.cell? ⟨w1.heap.size, 1, none⟩ = some (.int .i64 s1.pos) := cell_at HA3.out 1
         have q2 : w3.cell? ⟨w1.heap.size, 2, none⟩ = some (.int .i64 s1.sh) := cell_at HA3.out 2
         have q3 : w3.cell? ⟨w1.heap.size, 3, none⟩ = some (.int .i64 s1.od) := cell_at HA3.out 3
         have q4 : w3.cell? ⟨w1.heap.size, 4, none⟩ = some (.int .i64 s1.er) := cell_at HA3.out 4
         have Yz0 : w3.cell? ⟨w.heap.size + 1 + 1, 0, none⟩ = some (.slice none 0 0) := cell_at HZ3.out 0
         have Yf0 : w3.frozen? ⟨w.heap.size + 1 + 1, 0, none⟩ = false := (by simp only [World.frozen?, HZ3.out]; rfl)
         have Yz1 : w3.cell? ⟨w.heap.size + 1 + 1, 1, none⟩ = some (.int .i64 0) := cell_at HZ3.out 1
         have Yf1 : w3.frozen? ⟨w.heap.size + 1 + 1, 1, none⟩ = false := (by simp only [World.frozen?, HZ3.out]; rfl)
         have Yz2 : w3.cell? ⟨w.heap.size + 1 + 1, 2, none⟩ = some (.int .i64 0) := cell_at HZ3.out 2
         have Yf2 : w3.frozen? ⟨w.heap.size + 1 + 1, 2, none⟩ = false := (by simp only [World.frozen?, HZ3.out]; rfl)
         have Yz3 : w3.cell? ⟨w.heap.size + 1 + 1, 3, none⟩ = some (.int .i64 0) := cell_at HZ3.out 3
         have Yf3 : w3.frozen? ⟨w.heap.size + 1 + 1, 3, none⟩ = false := (by simp only [World.frozen?, HZ3.out]; rfl)
         have Yz4 : w3.cell? ⟨w.heap.size + 1 + 1, 4, none⟩ = some (.int .i64 0) := cell_at HZ3.out 4
         have Yf4 : w3.frozen? ⟨w.heap.size + 1 + 1, 4, none⟩ = false := (by simp only [World.frozen?, HZ3.out]; rfl)
         skip))
  | fail
  all_goals go_wp2
  all_goals
    obtain ⟨yZ, gZ⟩ := rows5 HZ3.out (.slice a s.bs.length cap) (.int .i64 s1.pos) (.int .i64 s1.sh) (.int .i64 s1.od) (.int .i64 s1.er)
    refine bodyPost_ret (res_tmp_row_tmp rfl _ _ (w.heap.size + 1 + 1) _ _ _ _ rfl yZ Try.underlying62 rfl (by kernel_rfl)) rfl ?_
    exact ⟨rfl, HC3.out.grown gZ (fun k e => .inr (by injection e with e; omega)), grown_new (grown_trans (grown_of_below HBa.out (some p)) HG3.out) gZ (by omega)⟩

end Go.Proofs.Ytdljlcbjpfgmcaa
