/- The walk of law 02's op, of the kind Sub. Conditions: none beyond each lemma's own. -/
import Derived.Test.YtdljlcbjpfgmcaaCrG
namespace Go.Proofs.Ytdljlcbjpfgmcaa
open Go.RowKit
set_option maxRecDepth 100000
set_option maxHeartbeats 4000000

theorem ints_block {k : IntKind} {w : World} {v : Value} {zs : List Int} (h : Ints k w v zs) : zs = [] ∨ ∀ b, v.ownBlock = some b → b < w.heap.size := by
  rcases Nat.eq_zero_or_pos zs.length with h0 | h0
  · exact .inl (List.eq_nil_of_length_eq_zero h0)
  · obtain ⟨a, cap, b, off, rfl, -, -, -, h5, h6⟩ := h.open
    obtain rfl := h5 h0
    refine .inr fun k e => ?_
    have e : b = k := by injection e
    subst e
    exact World.block_lt_of_cell? _ _ (h6 0 h0)

theorem left_below {w w' : World} {q : Nat} (h : w' = w.drewN q) : Below w.heap.size w w' := by rw [h]; exact below_drewN (Below.refl _ _) q
abbrev HeldC (w9 w' : World) (B : Nat × Nat) (p g : Nat) (s : St) (v : Value) : Prop :=
  (w'.cell? ⟨g, 0, none⟩ = some v ∧ w'.cell? ⟨g, 1, none⟩ = some (.int .i64 s.pos) ∧ w'.cell? ⟨g, 2, none⟩ = some (.int .i64 s.sh) ∧ w'.cell? ⟨g, 3, none⟩ = some (.int .i64 s.od) ∧ w'.cell? ⟨g, 4, none⟩ = some (.int .i64 s.er)) ∧ Cur B w' p s ∧ Below w9.heap.size w9 w'
theorem HeldC.next {w9 w w' : World} {B : Nat × Nat} {p g : Nat} {s : St} {v : Value} (h : HeldC w9 w B p g s v) (hb : Below w.heap.size w w') : HeldC w9 w' B p g s v := by
  have k : ∀ {a : Addr} {v : Value}, w.cell? a = some v → w'.cell? a = some v := fun {a v} h => (hb.cell (World.block_lt_of_cell? _ _ h)).trans h
  exact ⟨⟨k h.1.1, k h.1.2.1, k h.1.2.2.1, k h.1.2.2.2.1, k h.1.2.2.2.2⟩, h.2.1.below hb, h.2.2.trans (hb.mono h.2.2.size)⟩
theorem HeldC.cur {w9 w : World} {B : Nat × Nat} {p g : Nat} {s : St} {v : Value} (h : HeldC w9 w B p g s v) : Cur B w p s := h.2.1
theorem HeldC.bel {w9 w : World} {B : Nat × Nat} {p g : Nat} {s : St} {v : Value} (h : HeldC w9 w B p g s v) : Below w9.heap.size w9 w := h.2.2

/-- What op hands back where it goes on with another cursor. -/
def OpNew (w : World) (p : Nat) (l : List Int) (e : Ending) (w' : World) : Prop :=
  ∃ q v B', e = .returned (.tuple #[.pointer (some ⟨q, 0, none⟩), .agg (docA v (St.fresh l 263 269)), .bool true]) ∧ Cur B' w' q (St.fresh l 263 269) ∧ Ints .u8 w' v l ∧
    (l = [] ∨ ∀ k, v.ownBlock = some k → w.heap.size ≤ k ∧ k < B'.1) ∧ w.heap.size ≤ B'.1 ∧ B'.2 ≤ w'.heap.size ∧ w.grownBy w' (some p)

theorem op_sub_no (B : Nat × Nat) (p : Nat) (s : St) (n : Int) (vB vw : Value) (ws : List Int) (w : World) (hc : Cur B w p s) (hB : B.2 ≤ w.heap.size) (hd : Ints .u8 w vB s.bs) (hsh : s.sh ≠ 0) (hw : Ints .i64 w vw ws) (hn : (Lit.int .i64 n).wf = true) (htk : s.takes n = false) :
    Calls Try.prog 44 #[.pointer (some ⟨p, 0, none⟩), .agg (docA vB s), .agg #[.int .i64 4, .int .i64 n, vw]] w (OpOn B w p vB (s.bytes n).1) := by
  have _ := hB
  have hlt := hc.lt
  have hps := hc.ok.1
  have hbd : s.bs.length ≤ 1000000000 := by obtain ⟨bv, -, -, h2, -⟩ := hc; exact h2.2
  have HX := Lib.hid hd
  obtain ⟨a, cap, b, off, rfl, -⟩ := hd.open
  obtain ⟨a2, cap2, b2, off2, rfl, -⟩ := hw.open
  have HC := Lib.hid hc
  have HDoc := fun w' (hb : Below w.heap.size w w') => Lib.hid (doc_sub (.slice a s.bs.length cap) s n 263 269 w' (HX.out.below hb) hps hbd hsh)
  have HCur := fun w' (h : Cur B w' p s) => Lib.hid (cur_sub h hsh n hn 263 269)
  unfold GotSub at HCur
  rw [htk] at HDoc
  simp only [htk] at HCur
  generalize (s.bytes n).2 = l at HDoc HCur ⊢
  generalize (s.bytes n).1 = s1 at HDoc HCur ⊢
  have HBx : Hid (Below w.heap.size w (((w.alloc (.cells (docA (.slice a s.bs.length cap) s) 62)).alloc (.cells #[.int .i64 4, .int .i64 n, .slice a2 ws.length cap2] 67)).alloc (.cells docZ 62))) := (below_al2 _ _).alloc (by simp; omega) _
  have HO0 : Hid ((((w.alloc (.cells (docA (.slice a s.bs.length cap) s) 62)).alloc (.cells #[.int .i64 4, .int .i64 n, .slice a2 ws.length cap2] 67)).alloc (.cells docZ 62)).heap[w.heap.size + 1]? = some (.cells #[.int .i64 4, .int .i64 n, .slice a2 ws.length cap2] 67 (0, 0))) := ((below_al (.cells docZ 62)).block _ (by simp)).trans (heap_alloc2_new _ _ _)
  have HZ0 : Hid ((((w.alloc (.cells (docA (.slice a s.bs.length cap) s) 62)).alloc (.cells #[.int .i64 4, .int .i64 n, .slice a2 ws.length cap2] 67)).alloc (.cells docZ 62)).heap[w.heap.size + 1 + 1]? = some (.cells docZ 62 (0, 0))) := by
    have := heap_alloc_new ((w.alloc (.cells (docA (.slice a s.bs.length cap) s) 62)).alloc (.cells #[.int .i64 4, .int .i64 n, .slice a2 ws.length cap2] 67)) (.cells docZ 62)
    rw [World.size_alloc, World.size_alloc] at this
    exact this
  have HD0 := HDoc (((w.alloc (.cells (docA (.slice a s.bs.length cap) s) 62)).alloc (.cells #[.int .i64 4, .int .i64 n, .slice a2 ws.length cap2] 67)).alloc (.cells docZ 62)) HBx.out
  replace htk := Lib.hid htk
  clear hc hd hw
  go_enter Try.func44, Try.ntmps44
  go_wp2_with fail
  (with_reducible refine HD0.out.mono ?_)
  rintro e1 w1 ⟨v, rfl, hv, hnv, hb⟩
  have HB1 := Lib.hid (HBx.out.trans (hb.mono HBx.out.size))
  have HO1 := Lib.hid ((hb.block (w.heap.size + 1) (by simp)).trans HO0.out)
  have HZ1 := Lib.hid ((hb.block (w.heap.size + 1 + 1) (by simp)).trans HZ0.out)
  have HV1 := Lib.hid hv
  have HN1 : Hid (New (w.heap.size + 3) v) := fun k e => by have := hnv k e; simp at this; omega
  have HK1 := Lib.hid (ints_block hv)
  obtain ⟨a3, c3, b3, o3, rfl, -⟩ := hv.open
  clear hb hv hnv
  have hs1 : Hid (w.heap.size + 1 + 1 < w1.heap.size) := (Array.getElem?_eq_some_iff.1 HZ1.out).1
  have HBa : Hid (Below w.heap.size w ((w1.alloc (.cells (docA (.slice a s.bs.length cap) s1) 62)).alloc (.cells (docA (.slice a3 l.length c3) (St.fresh l 263 269)) 62))) := (HB1.out.alloc HB1.out.size _).alloc (by have := HB1.out.size; simp; omega) _
  have HAa : Hid (((w1.alloc (.cells (docA (.slice a s.bs.length cap) s1) 62)).alloc (.cells (docA (.slice a3 l.length c3) (St.fresh l 263 269)) 62)).heap[w1.heap.size]? = some (.cells (docA (.slice a s.bs.length cap) s1) 62 (0, 0))) := ((below_al (.cells (docA (.slice a3 l.length c3) (St.fresh l 263 269)) 62)).block _ (by simp)).trans (heap_alloc_new _ _)
  have HEa : Hid (((w1.alloc (.cells (docA (.slice a s.bs.length cap) s1) 62)).alloc (.cells (docA (.slice a3 l.length c3) (St.fresh l 263 269)) 62)).heap[w1.heap.size + 1]? = some (.cells (docA (.slice a3 l.length c3) (St.fresh l 263 269)) 62 (0, 0))) := heap_alloc2_new _ _ _
  have HOa : Hid (((w1.alloc (.cells (docA (.slice a s.bs.length cap) s1) 62)).alloc (.cells (docA (.slice a3 l.length c3) (St.fresh l 263 269)) 62)).heap[w.heap.size + 1]? = some (.cells #[.int .i64 4, .int .i64 n, .slice a2 ws.length cap2] 67 (0, 0))) := ((below_al2 _ _).block (w.heap.size + 1) (by have := hs1.out; omega)).trans HO1.out
  have HZa : Hid (((w1.alloc (.cells (docA (.slice a s.bs.length cap) s1) 62)).alloc (.cells (docA (.slice a3 l.length c3) (St.fresh l 263 269)) 62)).heap[w.heap.size + 1 + 1]? = some (.cells docZ 62 (0, 0))) := ((below_al2 _ _).block (w.heap.size + 1 + 1) hs1.out).trans HZ1.out
  have HVa : Hid (Ints .u8 ((w1.alloc (.cells (docA (.slice a s.bs.length cap) s1) 62)).alloc (.cells (docA (.slice a3 l.length c3) (St.fresh l 263 269)) 62)) (.slice a3 l.length c3) l) := (HV1.out.alloc _).alloc _
  have hsa : Hid (w1.heap.size + 1 < ((w1.alloc (.cells (docA (.slice a s.bs.length cap) s1) 62)).alloc (.cells (docA (.slice a3 l.length c3) (St.fresh l 263 269)) 62)).heap.size) := by show _ < _; simp
  have HCa := HCur ((w1.alloc (.cells (docA (.slice a s.bs.length cap) s1) 62)).alloc (.cells (docA (.slice a3 l.length c3) (St.fresh l 263 269)) 62)) (HC.out.below HBa.out)
  have o1 : ((w1.alloc (.cells (docA (.slice a s.bs.length cap) s1) 62)).alloc (.cells (docA (.slice a3 l.length c3) (St.fresh l 263 269)) 62)).cell? ⟨w.heap.size + 1, 1, none⟩ = some (.int .i64 n) := cell_at HOa.out 1
  go_wp2_with fail
  (with_reducible refine HCa.out.mono ?_)
  rintro e1 w2 (⟨-, rfl, hc2, hg2⟩ | ⟨h, -⟩)
  case inr => cases h
  have HG2 := Lib.hid (grown_trans (grown_of_below HBa.out (some p)) hg2)
  have HC2 := Lib.hid hc2
  have HA2 := Lib.hid ((hg2.block w1.heap.size (by have := hsa.out; omega) (by have := hs1.out; intro e; injection e; omega)).trans HAa.out)
  have HZ2 := Lib.hid ((hg2.block (w.heap.size + 1 + 1) (by have := hs1.out; have := hsa.out; omega) (by intro e; injection e; omega)).trans HZa.out)
  clear hg2 hc2 o1
  have k0 : w2.cell? ⟨w1.heap.size, 0, none⟩ = some (.slice a s.bs.length cap) := cell_at HA2.out 0
  have k1 : w2.cell? ⟨w1.heap.size, 1, none⟩ = some (.int .i64 s1.pos) := cell_at HA2.out 1
  have k2 : w2.cell? ⟨w1.heap.size, 2, none⟩ = some (.int .i64 s1.sh) := cell_at HA2.out 2
  have k3 : w2.cell? ⟨w1.heap.size, 3, none⟩ = some (.int .i64 s1.od) := cell_at HA2.out 3
  have k4 : w2.cell? ⟨w1.heap.size, 4, none⟩ = some (.int .i64 s1.er) := cell_at HA2.out 4
  have Zz0 : w2.cell? ⟨w.heap.size + 1 + 1, 0, none⟩ = some (.slice none 0 0) := cell_at HZ2.out 0
  have Zf0 : w2.frozen? ⟨w.heap.size + 1 + 1, 0, none⟩ = false := (by simp only [World.frozen?, HZ2.out]; rfl)
  have Zz1 : w2.cell? ⟨w.heap.size + 1 + 1, 1, none⟩ = some (.int .i64 0) := cell_at HZ2.out 1
  have Zf1 : w2.frozen? ⟨w.heap.size + 1 + 1, 1, none⟩ = false := (by simp only [World.frozen?, HZ2.out]; rfl)
  have Zz2 : w2.cell? ⟨w.heap.size + 1 + 1, 2, none⟩ = some (.int .i64 0) := cell_at HZ2.out 2
  have Zf2 : w2.frozen? ⟨w.heap.size + 1 + 1, 2, none⟩ = false := (by simp only [World.frozen?, HZ2.out]; rfl)
  have Zz3 : w2.cell? ⟨w.heap.size + 1 + 1, 3, none⟩ = some (.int .i64 0) := cell_at HZ2.out 3
  have Zf3 : w2.frozen? ⟨w.heap.size + 1 + 1, 3, none⟩ = false := (by simp only [World.frozen?, HZ2.out]; rfl)
  have Zz4 : w2.cell? ⟨w.heap.size + 1 + 1, 4, none⟩ = some (.int .i64 0) := cell_at HZ2.out 4
  have Zf4 : w2.frozen? ⟨w.heap.size + 1 + 1, 4, none⟩ = false := (by simp only [World.frozen?, HZ2.out]; rfl)
  go_wp2_with fail
  first
  | go_region
  | fail
  all_goals go_wp2
  all_goals
    obtain ⟨yZ, gZ⟩ := rows5 HZ2.out (.slice a s.bs.length cap) (.int .i64 s1.pos) (.int .i64 s1.sh) (.int .i64 s1.od) (.int .i64 s1.er)
    refine bodyPost_ret (res_tmp_row_tmp rfl _ _ (w.heap.size + 1 + 1) _ _ _ _ rfl yZ Try.underlying62 rfl (by kernel_rfl)) rfl ?_
    exact ⟨rfl, HC2.out.grown (grown_draw gZ 1) (fun k e => .inr (by injection e with e; omega)), grown_new HG2.out (grown_draw gZ 1) (by omega)⟩

theorem op_sub_yes (B : Nat × Nat) (p : Nat) (s : St) (n : Int) (vB vw : Value) (ws : List Int) (w : World) (hc : Cur B w p s) (hB : B.2 ≤ w.heap.size) (hd : Ints .u8 w vB s.bs) (hsh : s.sh ≠ 0) (hw : Ints .i64 w vw ws) (hn : (Lit.int .i64 n).wf = true) (hfr : s.bs = [] ∨ ∀ k, vB.ownBlock = some k → k ≠ p) (htk : s.takes n = true) :
    Calls Try.prog 44 #[.pointer (some ⟨p, 0, none⟩), .agg (docA vB s), .agg #[.int .i64 4, .int .i64 n, vw]] w (OpNew w p (s.bytes n).2) := by
  have hok1 := (bytes_same2 s n).1
  have _ := hB
  have hlt := hc.lt
  have hps := hc.ok.1
  have hbd : s.bs.length ≤ 1000000000 := by obtain ⟨bv, -, -, h2, -⟩ := hc; exact h2.2
  have HX := Lib.hid hd
  obtain ⟨a, cap, b, off, rfl, -⟩ := hd.open
  obtain ⟨a2, cap2, b2, off2, rfl, -⟩ := hw.open
  have HC := Lib.hid hc
  have HDoc := fun w' (hb : Below w.heap.size w w') => Lib.hid (doc_sub (.slice a s.bs.length cap) s n 263 269 w' (HX.out.below hb) hps hbd hsh)
  have HCur := fun w' (h : Cur B w' p s) => Lib.hid (cur_sub h hsh n hn 263 269)
  unfold GotSub at HCur
  rw [htk] at HDoc
  simp only [htk] at HCur
  generalize (s.bytes n).2 = l at HDoc HCur ⊢
  generalize (s.bytes n).1 = s1 at HDoc HCur hok1 ⊢
  have HBx : Hid (Below w.heap.size w (((w.alloc (.cells (docA (.slice a s.bs.length cap) s) 62)).alloc (.cells #[.int .i64 4, .int .i64 n, .slice a2 ws.length cap2] 67)).alloc (.cells docZ 62))) := (below_al2 _ _).alloc (by simp; omega) _
  have HO0 : Hid ((((w.alloc (.cells (docA (.slice a s.bs.length cap) s) 62)).alloc (.cells #[.int .i64 4, .int .i64 n, .slice a2 ws.length cap2] 67)).alloc (.cells docZ 62)).heap[w.heap.size + 1]? = some (.cells #[.int .i64 4, .int .i64 n, .slice a2 ws.length cap2] 67 (0, 0))) := ((below_al (.cells docZ 62)).block _ (by simp)).trans (heap_alloc2_new _ _ _)
  have HZ0 : Hid ((((w.alloc (.cells (docA (.slice a s.bs.length cap) s) 62)).alloc (.cells #[.int .i64 4, .int .i64 n, .slice a2 ws.length cap2] 67)).alloc (.cells docZ 62)).heap[w.heap.size + 1 + 1]? = some (.cells docZ 62 (0, 0))) := by
    have := heap_alloc_new ((w.alloc (.cells (docA (.slice a s.bs.length cap) s) 62)).alloc (.cells #[.int .i64 4, .int .i64 n, .slice a2 ws.length cap2] 67)) (.cells docZ 62)
    rw [World.size_alloc, World.size_alloc] at this
    exact this
  have HD0 := HDoc (((w.alloc (.cells (docA (.slice a s.bs.length cap) s) 62)).alloc (.cells #[.int .i64 4, .int .i64 n, .slice a2 ws.length cap2] 67)).alloc (.cells docZ 62)) HBx.out
  replace htk := Lib.hid htk
  clear hc hd hw
  go_enter Try.func44, Try.ntmps44
  go_wp2_with fail
  (with_reducible refine HD0.out.mono ?_)
  rintro e1 w1 ⟨v, rfl, hv, hnv, hb⟩
  have HB1 := Lib.hid (HBx.out.trans (hb.mono HBx.out.size))
  have HO1 := Lib.hid ((hb.block (w.heap.size + 1) (by simp)).trans HO0.out)
  have HZ1 := Lib.hid ((hb.block (w.heap.size + 1 + 1) (by simp)).trans HZ0.out)
  have HV1 := Lib.hid hv
  have HN1 : Hid (New (w.heap.size + 3) v) := fun k e => by have := hnv k e; simp at this; omega
  have HK1 := Lib.hid (ints_block hv)
  obtain ⟨a3, c3, b3, o3, rfl, -⟩ := hv.open
  clear hb hv hnv
  have hs1 : Hid (w.heap.size + 1 + 1 < w1.heap.size) := (Array.getElem?_eq_some_iff.1 HZ1.out).1
  have HBa : Hid (Below w.heap.size w ((w1.alloc (.cells (docA (.slice a s.bs.length cap) s1) 62)).alloc (.cells (docA (.slice a3 l.length c3) (St.fresh l 263 269)) 62))) := (HB1.out.alloc HB1.out.size _).alloc (by have := HB1.out.size; simp; omega) _
  have HAa : Hid (((w1.alloc (.cells (docA (.slice a s.bs.length cap) s1) 62)).alloc (.cells (docA (.slice a3 l.length c3) (St.fresh l 263 269)) 62)).heap[w1.heap.size]? = some (.cells (docA (.slice a s.bs.length cap) s1) 62 (0, 0))) := ((below_al (.cells (docA (.slice a3 l.length c3) (St.fresh l 263 269)) 62)).block _ (by simp)).trans (heap_alloc_new _ _)
  have HEa : Hid (((w1.alloc (.cells (docA (.slice a s.bs.length cap) s1) 62)).alloc (.cells (docA (.slice a3 l.length c3) (St.fresh l 263 269)) 62)).heap[w1.heap.size + 1]? = some (.cells (docA (.slice a3 l.length c3) (St.fresh l 263 269)) 62 (0, 0))) := heap_alloc2_new _ _ _
  have HOa : Hid (((w1.alloc (.cells (docA (.slice a s.bs.length cap) s1) 62)).alloc (.cells (docA (.slice a3 l.length c3) (St.fresh l 263 269)) 62)).heap[w.heap.size + 1]? = some (.cells #[.int .i64 4, .int .i64 n, .slice a2 ws.length cap2] 67 (0, 0))) := ((below_al2 _ _).block (w.heap.size + 1) (by have := hs1.out; omega)).trans HO1.out
  have HZa : Hid (((w1.alloc (.cells (docA (.slice a s.bs.length cap) s1) 62)).alloc (.cells (docA (.slice a3 l.length c3) (St.fresh l 263 269)) 62)).heap[w.heap.size + 1 + 1]? = some (.cells docZ 62 (0, 0))) := ((below_al2 _ _).block (w.heap.size + 1 + 1) hs1.out).trans HZ1.out
  have HVa : Hid (Ints .u8 ((w1.alloc (.cells (docA (.slice a s.bs.length cap) s1) 62)).alloc (.cells (docA (.slice a3 l.length c3) (St.fresh l 263 269)) 62)) (.slice a3 l.length c3) l) := (HV1.out.alloc _).alloc _
  have hsa : Hid (w1.heap.size + 1 < ((w1.alloc (.cells (docA (.slice a s.bs.length cap) s1) 62)).alloc (.cells (docA (.slice a3 l.length c3) (St.fresh l 263 269)) 62)).heap.size) := by show _ < _; simp
  have HCa := HCur ((w1.alloc (.cells (docA (.slice a s.bs.length cap) s1) 62)).alloc (.cells (docA (.slice a3 l.length c3) (St.fresh l 263 269)) 62)) (HC.out.below HBa.out)
  have o1 : ((w1.alloc (.cells (docA (.slice a s.bs.length cap) s1) 62)).alloc (.cells (docA (.slice a3 l.length c3) (St.fresh l 263 269)) 62)).cell? ⟨w.heap.size + 1, 1, none⟩ = some (.int .i64 n) := cell_at HOa.out 1
  go_wp2_with fail
  (with_reducible refine HCa.out.mono ?_)
  rintro e1 w2 (⟨h, -⟩ | ⟨-, w3, q, rfl, hc3, hg3, hb3, hq⟩)
  case inl => cases h
  have HG3 := Lib.hid (grown_trans (grown_of_below HBa.out (some p)) hg3)
  have HG2 := Lib.hid (grown_trans HG3.out (grown_of_below hb3 (some p)))
  have HC2 := Lib.hid (hc3.below hb3)
  have HQ2 := Lib.hid hq
  have hsz3 : Hid (((w1.alloc (.cells (docA (.slice a s.bs.length cap) s1) 62)).alloc (.cells (docA (.slice a3 l.length c3) (St.fresh l 263 269)) 62)).heap.size ≤ w3.heap.size) := hg3.size
  have hga := grown_trans hg3 (grown_of_below hb3 (some p))
  have HA2 := Lib.hid ((hga.block w1.heap.size (by have := hsa.out; omega) (by have := hs1.out; intro e; injection e; omega)).trans HAa.out)
  have HE2 := Lib.hid ((hga.block (w1.heap.size + 1) hsa.out (by have := hs1.out; intro e; injection e; omega)).trans HEa.out)
  have HZ2 := Lib.hid ((hga.block (w.heap.size + 1 + 1) (by have := hs1.out; have := hsa.out; omega) (by intro e; injection e; omega)).trans HZa.out)
  have HV2 := Lib.hid (HVa.out.grown hga (fun k e e' => by have := HN1.out k e; injection e' with e'; omega))
  have HX2 := Lib.hid (ints_apart HX.out HG2.out hfr)
  have hp1 := hc3.ok.1
  clear hg3 hc3 hb3 hq hga o1
  have b1 : ((s1.left : Int) != (s1.left : Int)) = false := by simp
  have b2 : (s1.er != s1.er) = false := by simp
  have k0 : w2.cell? ⟨w1.heap.size, 0, none⟩ = some (.slice a s.bs.length cap) := cell_at HA2.out 0
  have k1 : w2.cell? ⟨w1.heap.size, 1, none⟩ = some (.int .i64 s1.pos) := cell_at HA2.out 1
  have k2 : w2.cell? ⟨w1.heap.size, 2, none⟩ = some (.int .i64 s1.sh) := cell_at HA2.out 2
  have k3 : w2.cell? ⟨w1.heap.size, 3, none⟩ = some (.int .i64 s1.od) := cell_at HA2.out 3
  have k4 : w2.cell? ⟨w1.heap.size, 4, none⟩ = some (.int .i64 s1.er) := cell_at HA2.out 4
  have HL2 := fun w' (hb : Below w2.heap.size w2 w') => Lib.hid (doc_left (.slice a s.bs.length cap) s1 w' (by rw [hok1]; exact HX2.out.below hb) hp1)
  have HS : Hid (HeldC w2 w2 B p w1.heap.size s1 (.slice a s.bs.length cap)) := ⟨⟨k0, k1, k2, k3, k4⟩, HC2.out, Below.refl _ _⟩
  have HSd : HeldC w2 w2.drew B p w1.heap.size s1 (.slice a s.bs.length cap) := ⟨⟨k0, k1, k2, k3, k4⟩, HC2.out.drew 1, below_drewN (Below.refl _ _) 1⟩
  clear k0 k1 k2 k3 k4
  go_wp2_with fail
  have HS0 := HS.out
  go_region_held (fun w' => HeldC w2 w' B p w1.heap.size s1 (.slice a s.bs.length cap)) (first | assumption | exact HSd) (first
    | (go_at_call 37; refine (cur_left (HeldC.cur (by assumption))).mono ?_; rintro e1 w' ⟨rfl, qq, hq'⟩; have hS' := HeldC.next (by assumption) (left_below hq'); clear hq')
    | (go_at_call 46; refine (HL2 _ (HeldC.bel (by assumption))).out.mono ?_; rintro e1 w' ⟨rfl, hb⟩; have hS' := HeldC.next (by assumption) hb; clear hb)
    | (go_at_call 36; refine (cur_err (HeldC.cur (by assumption))).mono ?_; rintro e1 w' ⟨rfl, rfl⟩))
  all_goals go_wp2_with fail
  all_goals
    have hbl := HeldC.bel hS'
    have HEf := Lib.hid ((hbl.block (w1.heap.size + 1) (Array.getElem?_eq_some_iff.1 HE2.out).1).trans HE2.out)
    have HZf := Lib.hid ((hbl.block (w.heap.size + 1 + 1) (Array.getElem?_eq_some_iff.1 HZ2.out).1).trans HZ2.out)
    have HBf := Lib.hid hbl
    clear hbl HS0
    have e0 : w'.cell? ⟨w1.heap.size + 1, 0, none⟩ = some (.slice a3 l.length c3) := cell_at HEf.out 0
    have e1 : w'.cell? ⟨w1.heap.size + 1, 1, none⟩ = some (.int .i64 ((St.fresh l 263 269).pos : Nat)) := cell_at HEf.out 1
    have e2 : w'.cell? ⟨w1.heap.size + 1, 2, none⟩ = some (.int .i64 (St.fresh l 263 269).sh) := cell_at HEf.out 2
    have e3 : w'.cell? ⟨w1.heap.size + 1, 3, none⟩ = some (.int .i64 (St.fresh l 263 269).od) := cell_at HEf.out 3
    have e4 : w'.cell? ⟨w1.heap.size + 1, 4, none⟩ = some (.int .i64 (St.fresh l 263 269).er) := cell_at HEf.out 4
    have Zz0 : w'.cell? ⟨w.heap.size + 1 + 1, 0, none⟩ = some (.slice none 0 0) := cell_at HZf.out 0
    have Zf0 : w'.frozen? ⟨w.heap.size + 1 + 1, 0, none⟩ = false := (by simp only [World.frozen?, HZf.out]; rfl)
    have Zz1 : w'.cell? ⟨w.heap.size + 1 + 1, 1, none⟩ = some (.int .i64 0) := cell_at HZf.out 1
    have Zf1 : w'.frozen? ⟨w.heap.size + 1 + 1, 1, none⟩ = false := (by simp only [World.frozen?, HZf.out]; rfl)
    have Zz2 : w'.cell? ⟨w.heap.size + 1 + 1, 2, none⟩ = some (.int .i64 0) := cell_at HZf.out 2
    have Zf2 : w'.frozen? ⟨w.heap.size + 1 + 1, 2, none⟩ = false := (by simp only [World.frozen?, HZf.out]; rfl)
    have Zz3 : w'.cell? ⟨w.heap.size + 1 + 1, 3, none⟩ = some (.int .i64 0) := cell_at HZf.out 3
    have Zf3 : w'.frozen? ⟨w.heap.size + 1 + 1, 3, none⟩ = false := (by simp only [World.frozen?, HZf.out]; rfl)
    have Zz4 : w'.cell? ⟨w.heap.size + 1 + 1, 4, none⟩ = some (.int .i64 0) := cell_at HZf.out 4
    have Zf4 : w'.frozen? ⟨w.heap.size + 1 + 1, 4, none⟩ = false := (by simp only [World.frozen?, HZf.out]; rfl)
    first
    | go_region
    | fail
  all_goals go_wp2
  all_goals
    obtain ⟨yZ, gZ⟩ := rows5 HZf.out (.slice a3 l.length c3) (.int .i64 ((St.fresh l 263 269).pos : Nat)) (.int .i64 (St.fresh l 263 269).sh) (.int .i64 (St.fresh l 263 269).od) (.int .i64 (St.fresh l 263 269).er)
    have h31 : w.heap.size + 1 + 1 < w3.heap.size := by have := hsz3.out; have := hs1.out; have := hsa.out; omega
    have gZ1 := grown_draw gZ 1
    have hsw : w2.heap.size ≤ w'.heap.size := HBf.out.size
    refine bodyPost_ret (res_tmp_row_tmp rfl _ _ (w.heap.size + 1 + 1) _ _ _ _ rfl yZ Try.underlying62 rfl (by kernel_rfl)) rfl ?_
    refine ⟨q, .slice a3 l.length c3, (w3.heap.size, w2.heap.size), rfl, (HQ2.out.below HBf.out).grown gZ1 (fun k e => .inl (by injection e with e; subst e; exact h31)), (HV2.out.below HBf.out).grown gZ1 (fun k e e' => by have := HN1.out k e; injection e' with e'; omega), ?_, (by show w.heap.size ≤ w3.heap.size; omega), Nat.le_trans hsw gZ1.size, grown_new (grown_trans HG2.out (grown_of_below HBf.out (some p))) gZ1 (by omega)⟩
    rcases HK1.out with h | h
    · exact .inl h
    · refine .inr fun k e => ⟨by have := HN1.out k e; omega, ?_⟩
      have := h k e
      have := hsz3.out
      have := hsa.out
      show k < w3.heap.size
      omega
end Go.Proofs.Ytdljlcbjpfgmcaa
