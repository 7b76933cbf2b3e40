/- The walks of the document's cursor (a struct by value): Sub. Conditions: none beyond each lemma's own. -/
import Derived.Test.YtdljlcbjpfgmcaaCrD
namespace Go.Proofs.Ytdljlcbjpfgmcaa
open Go.RowKit
set_option maxRecDepth 100000
set_option maxHeartbeats 4000000

theorem rows5 {w : World} {g : Nat} {o0 o1 o2 o3 o4 : Value} {t : TypeId} (h : w.heap[g]? = some (.cells #[o0, o1, o2, o3, o4] t (0, 0))) (v0 v1 v2 v3 v4 : Value) :
    (((((w.setCell ⟨g, 0, none⟩ v0).setCell ⟨g, 1, none⟩ v1).setCell ⟨g, 2, none⟩ v2).setCell ⟨g, 3, none⟩ v3).setCell ⟨g, 4, none⟩ v4).heap[g]? = some (.cells #[v0, v1, v2, v3, v4] t (0, 0)) ∧
    w.grownBy (((((w.setCell ⟨g, 0, none⟩ v0).setCell ⟨g, 1, none⟩ v1).setCell ⟨g, 2, none⟩ v2).setCell ⟨g, 3, none⟩ v3).setCell ⟨g, 4, none⟩ v4) (some g) := by
  have y1 := heap_put h 0 v0
  have y2 := heap_put y1 1 v1
  have y3 := heap_put y2 2 v2
  have y4 := heap_put y3 3 v3
  have y5 := heap_put y4 4 v4
  exact ⟨y5, grown_trans (grown_put _ _ _ _) (grown_trans (grown_put _ _ _ _) (grown_trans (grown_put _ _ _ _) (grown_trans (grown_put _ _ _ _) (grown_put _ _ _ _))))⟩

theorem res_row_row_tmp {P : Program} {fn : Func} {p q u : Tmp} {ty ty' : TypeId} (h : fn.results = #[.cell p ty, .cell q ty', .tmp u]) (tmps : Array Value) (w : World) (g g' : Nat) (t t' : TypeId) (cs cs' : Array Value) (fr fr' : Nat × Nat) (d d' : TypeDesc)
    (hp : tmps.getD p undef = .pointer (some ⟨g, 0, none⟩)) (hg : w.heap[g]? = some (.cells cs t fr))
    (hu : P.underlying ty = some d) (hd : (match d with | .struct _ | .array _ _ => true | _ => false) = true) (hi : (P.info? ty).map (·.size) = some cs.size)
    (hp' : tmps.getD q undef = .pointer (some ⟨g', 0, none⟩)) (hg' : w.heap[g']? = some (.cells cs' t' fr'))
    (hu' : P.underlying ty' = some d') (hd' : (match d' with | .struct _ | .array _ _ => true | _ => false) = true) (hi' : (P.info? ty').map (·.size) = some cs'.size) :
    (results fn tmps).run P w = .ok (.tuple #[.agg cs, .agg cs', tmps.getD u undef]) w := by
  have h1 : tmps[p]?.getD undef = .pointer (some ⟨g, 0, none⟩) := by simpa using hp
  have h2 : tmps[q]?.getD undef = .pointer (some ⟨g', 0, none⟩) := by simpa using hp'
  simp [results, h, h1, h2, asAddr, run_loadVar_row w g t ty cs fr d hg hu hd hi, run_loadVar_row w g' t' ty' cs' fr' d' hg' hu' hd' hi']

theorem takes_er {s : St} (hsh : s.sh ≠ 0) (h : s.er = 0) (n : Int) : s.takes n = ((s.bytes n).1.er == 0) := by
  unfold St.takes St.bytes
  by_cases h0 : n < 0
  · rw [if_pos h0]
    have h0' : ¬ 0 ≤ n := by omega
    simp [St.fail, h, h0']
  rw [if_neg h0, if_neg (by simp [h])]
  by_cases h1 : (s.left : Int) < n
  · rw [if_pos h1]
    have h1' : ¬ n ≤ (s.left : Int) := by omega
    simp [St.fail, h, hsh, h1']
  · rw [if_neg h1]
    simp [h]
    omega
theorem takes_busy {s : St} (h : s.er ≠ 0) (n : Int) : s.takes n = false := by
  simp [St.takes, h]

theorem doc_sub_a (vB : Value) (s : St) (n sh2 od2 : Int) (w : World) (h : Ints .u8 w vB s.bs) (hs : s.pos ≤ s.bs.length) (hbd : s.bs.length ≤ 1000000000) (hsh : s.sh ≠ 0) (he : ¬ s.er = 0) :
    Calls Try.prog 76 #[.agg (docA vB s), .int .i64 n, .int .i64 sh2, .int .i64 od2] w fun e w' => ∃ v, e = .returned (.tuple #[.agg (docA vB (s.bytes n).1), .agg (docA v (St.fresh (s.bytes n).2 sh2 od2)), .bool (s.takes n)]) ∧ Ints .u8 w' v (s.bytes n).2 ∧ New w.heap.size v ∧ Below w.heap.size w w' := by
  rw [takes_busy he]
  have HX := Lib.hid h
  obtain ⟨a, cap, b, off, rfl, -⟩ := h.open
  have hsame := bytes_same2 s n
  have HBt := fun w h => Lib.hid (doc_bytes (.slice a s.bs.length cap) s n w h hs hbd)
  have he' : (s.bytes n).1 = (s.bytes n).1 := rfl
  generalize (s.bytes n).2 = l at HBt ⊢
  generalize (s.bytes n).1 = s' at HBt hsame he' ⊢
  obtain ⟨bs0, pos, sh0, od0, er⟩ := s
  obtain ⟨bs, pos', sh, od, er'⟩ := s'
  obtain ⟨q1, q2, q3⟩ := hsame
  dsimp only at q1 q2 q3 he he'
  subst q1 q2 q3
  have HBx : Hid (Below w.heap.size w (((w.alloc (.cells (docA (.slice a bs.length cap) ⟨bs, pos, sh, od, er⟩) 62)).alloc (.cells docZ 62)).alloc (.cells docZ 62))) := (below_al2 _ _).alloc (by simp; omega) _
  have HA0 : Hid ((((w.alloc (.cells (docA (.slice a bs.length cap) ⟨bs, pos, sh, od, er⟩) 62)).alloc (.cells docZ 62)).alloc (.cells docZ 62)).heap[w.heap.size + 1]? = some (.cells docZ 62 (0, 0))) := ((below_al (.cells docZ 62)).block _ (by simp)).trans (heap_alloc2_new _ _ _)
  have HC0 : Hid ((((w.alloc (.cells (docA (.slice a bs.length cap) ⟨bs, pos, sh, od, er⟩) 62)).alloc (.cells docZ 62)).alloc (.cells docZ 62)).heap[w.heap.size + 2]? = some (.cells docZ 62 (0, 0))) := by
    have := heap_alloc_new ((w.alloc (.cells (docA (.slice a bs.length cap) ⟨bs, pos, sh, od, er⟩) 62)).alloc (.cells docZ 62)) (.cells docZ 62)
    rw [World.size_alloc, World.size_alloc] at this
    exact this
  have HB0 : Hid ((((w.alloc (.cells (docA (.slice a bs.length cap) ⟨bs, pos, sh, od, er⟩) 62)).alloc (.cells docZ 62)).alloc (.cells docZ 62)).heap[w.heap.size]? = some (.cells (docA (.slice a bs.length cap) ⟨bs, pos, sh, od, er⟩) 62 (0, 0))) := ((below_al (.cells docZ 62)).block w.heap.size (by simp; omega)).trans (((below_al (w := w.alloc (.cells (docA (.slice a bs.length cap) ⟨bs, pos, sh, od, er⟩) 62)) (.cells docZ 62)).block w.heap.size (by simp)).trans (heap_alloc_new _ _))
  have HBt0 := HBt (((w.alloc (.cells (docA (.slice a bs.length cap) ⟨bs, pos, sh, od, er⟩) 62)).alloc (.cells docZ 62)).alloc (.cells docZ 62)) (HX.out.below HBx.out)
  clear h hs
  have e0 : (er == 0) = false := by simpa using he
  clear he he'
  go_enter Try.func76, Try.ntmps76
  go_wp2_with (first
    | (go_at_call 74
       (with_reducible refine HBt0.out.mono ?_)
       rintro e1 w1 ⟨v3, rfl, hv, hn, hb⟩
       have HB1 := Lib.hid (HBx.out.trans (hb.mono HBx.out.size))
       have HBb1 := Lib.hid ((hb.block w.heap.size (by simp; omega)).trans HB0.out)
       have HA1 := Lib.hid ((hb.block (w.heap.size + 1) (by simp)).trans HA0.out)
       have HC1 := Lib.hid ((hb.block (w.heap.size + 2) (by simp)).trans HC0.out)
       have HV1 := Lib.hid hv
       have HN1 : Hid (New (w.heap.size + 3) v3) := fun k e => (by have := hn k e; simp at this; omega)
       obtain ⟨a3, c3, b3, o3, rfl, -⟩ := hv.open
       clear hb hv hn)
    | (refine wpList_store_rowTo rfl 62 _ _ rfl rfl w.heap.size #[.slice a bs.length cap, .int .i64 pos', .int .i64 sh, .int .i64 od, .int .i64 er'] rfl rfl _ _ HBb1.out (by kernel_rfl) (by kernel_rfl) (by kernel_rfl) ?_
       have HB2 := Lib.hid (below_setR HB1.out (Nat.le_refl _) #[.slice a bs.length cap, .int .i64 pos', .int .i64 sh, .int .i64 od, .int .i64 er'])
       have HBb2 := Lib.hid (setRow_heap w1 w.heap.size _ #[.slice a bs.length cap, .int .i64 pos', .int .i64 sh, .int .i64 od, .int .i64 er'] _ _ HBb1.out)
       have HA2 := Lib.hid ((setRow_other w1 w.heap.size (w.heap.size + 1) #[.slice a bs.length cap, .int .i64 pos', .int .i64 sh, .int .i64 od, .int .i64 er'] (by omega)).trans HA1.out)
       have HC2 := Lib.hid ((setRow_other w1 w.heap.size (w.heap.size + 2) #[.slice a bs.length cap, .int .i64 pos', .int .i64 sh, .int .i64 od, .int .i64 er'] (by omega)).trans HC1.out)
       have HV2 := Lib.hid (ints_setR (g := w.heap.size) HV1.out (fun k e => by have := HN1.out k e; omega) #[.slice a bs.length cap, .int .i64 pos', .int .i64 sh, .int .i64 od, .int .i64 er'])
       clear HBb1 HA1 HC1 HV1
       generalize w1.setRow w.heap.size #[.slice a bs.length cap, .int .i64 pos', .int .i64 sh, .int .i64 od, .int .i64 er'] = w2 at HB2 HBb2 HA2 HC2 HV2 ⊢
       have HNw := Lib.hid (doc_new (.slice a3 l.length c3) l sh2 od2 w2.drew (HV2.out.below (below_drewN (Below.refl _ _) 1)))
       have k0 : w2.cell? ⟨w.heap.size, 0, none⟩ = some (.slice a bs.length cap) := cell_at HBb2.out 0
       have k1 : w2.cell? ⟨w.heap.size, 1, none⟩ = some (.int .i64 pos') := cell_at HBb2.out 1
       have k2 : w2.cell? ⟨w.heap.size, 2, none⟩ = some (.int .i64 sh) := cell_at HBb2.out 2
       have k3 : w2.cell? ⟨w.heap.size, 3, none⟩ = some (.int .i64 od) := cell_at HBb2.out 3
       have k4 : w2.cell? ⟨w.heap.size, 4, none⟩ = some (.int .i64 er') := cell_at HBb2.out 4
       skip))
  first
  | go_region_law (go_simp
                   go_at_call 43
                   (with_reducible refine HNw.out.mono ?_)
                   rintro e1 w3 ⟨rfl, hb⟩
                   have hb := (below_drewN (Below.refl w2.heap.size w2) 1).trans hb
                   have HB3 := Lib.hid (HB2.out.trans (hb.mono HB2.out.size))
                   have HBb3 := Lib.hid ((hb.block w.heap.size (Array.getElem?_eq_some_iff.1 HBb2.out).1).trans HBb2.out)
                   have HA3 := Lib.hid ((hb.block (w.heap.size + 1) (Array.getElem?_eq_some_iff.1 HA2.out).1).trans HA2.out)
                   have HC3 := Lib.hid ((hb.block (w.heap.size + 2) (Array.getElem?_eq_some_iff.1 HC2.out).1).trans HC2.out)
                   have HV3 := Lib.hid (HV2.out.below hb)
                   clear hb
                   have m0 : w3.cell? ⟨w.heap.size, 0, none⟩ = some (.slice a bs.length cap) := cell_at HBb3.out 0
                   have m1 : w3.cell? ⟨w.heap.size, 1, none⟩ = some (.int .i64 pos') := cell_at HBb3.out 1
                   have m2 : w3.cell? ⟨w.heap.size, 2, none⟩ = some (.int .i64 sh) := cell_at HBb3.out 2
                   have m3 : w3.cell? ⟨w.heap.size, 3, none⟩ = some (.int .i64 od) := cell_at HBb3.out 3
                   have m4 : w3.cell? ⟨w.heap.size, 4, none⟩ = some (.int .i64 er') := cell_at HBb3.out 4
                   have Az0 : w3.cell? ⟨w.heap.size + 1, 0, none⟩ = some (.slice none 0 0) := cell_at HA3.out 0
                   have Af0 : w3.frozen? ⟨w.heap.size + 1, 0, none⟩ = false := (by simp only [World.frozen?, HA3.out]; rfl)
                   have Az1 : w3.cell? ⟨w.heap.size + 1, 1, none⟩ = some (.int .i64 0) := cell_at HA3.out 1
                   have Af1 : w3.frozen? ⟨w.heap.size + 1, 1, none⟩ = false := (by simp only [World.frozen?, HA3.out]; rfl)
                   have Az2 : w3.cell? ⟨w.heap.size + 1, 2, none⟩ = some (.int .i64 0) := cell_at HA3.out 2
                   have Af2 : w3.frozen? ⟨w.heap.size + 1, 2, none⟩ = false := (by simp only [World.frozen?, HA3.out]; rfl)
                   have Az3 : w3.cell? ⟨w.heap.size + 1, 3, none⟩ = some (.int .i64 0) := cell_at HA3.out 3
                   have Af3 : w3.frozen? ⟨w.heap.size + 1, 3, none⟩ = false := (by simp only [World.frozen?, HA3.out]; rfl)
                   have Az4 : w3.cell? ⟨w.heap.size + 1, 4, none⟩ = some (.int .i64 0) := cell_at HA3.out 4
                   have Af4 : w3.frozen? ⟨w.heap.size + 1, 4, none⟩ = false := (by simp only [World.frozen?, HA3.out]; rfl)
                   have Cz0 : w3.cell? ⟨w.heap.size + 2, 0, none⟩ = some (.slice none 0 0) := cell_at HC3.out 0
                   have Cf0 : w3.frozen? ⟨w.heap.size + 2, 0, none⟩ = false := (by simp only [World.frozen?, HC3.out]; rfl)
                   have Cz1 : w3.cell? ⟨w.heap.size + 2, 1, none⟩ = some (.int .i64 0) := cell_at HC3.out 1
                   have Cf1 : w3.frozen? ⟨w.heap.size + 2, 1, none⟩ = false := (by simp only [World.frozen?, HC3.out]; rfl)
                   have Cz2 : w3.cell? ⟨w.heap.size + 2, 2, none⟩ = some (.int .i64 0) := cell_at HC3.out 2
                   have Cf2 : w3.frozen? ⟨w.heap.size + 2, 2, none⟩ = false := (by simp only [World.frozen?, HC3.out]; rfl)
                   have Cz3 : w3.cell? ⟨w.heap.size + 2, 3, none⟩ = some (.int .i64 0) := cell_at HC3.out 3
                   have Cf3 : w3.frozen? ⟨w.heap.size + 2, 3, none⟩ = false := (by simp only [World.frozen?, HC3.out]; rfl)
                   have Cz4 : w3.cell? ⟨w.heap.size + 2, 4, none⟩ = some (.int .i64 0) := cell_at HC3.out 4
                   have Cf4 : w3.frozen? ⟨w.heap.size + 2, 4, none⟩ = false := (by simp only [World.frozen?, HC3.out]; rfl)
                   skip)
  | fail
  all_goals go_wp2
  all_goals
    obtain ⟨yA, gA⟩ := rows5 HA3.out (.slice a bs.length cap) (.int .i64 pos') (.int .i64 sh) (.int .i64 od) (.int .i64 er')
    have hs3 : w.heap.size + 2 < w3.heap.size := (Array.getElem?_eq_some_iff.1 HC3.out).1
    have HC4 := (gA.block (w.heap.size + 1 + 1) hs3 (by intro e; injection e; omega)).trans HC3.out
    obtain ⟨yC, gC⟩ := rows5 HC4 (.slice a3 l.length c3) (.int .i64 ((St.fresh l sh2 od2).pos : Nat)) (.int .i64 (St.fresh l sh2 od2).sh) (.int .i64 (St.fresh l sh2 od2).od) (.int .i64 (St.fresh l sh2 od2).er)
    have yA' := (gC.block (w.heap.size + 1) (by have := gA.size; omega) (by intro e; injection e; omega)).trans yA
    refine bodyPost_ret (res_row_row_tmp rfl _ _ (w.heap.size + 1) (w.heap.size + 1 + 1) _ _ _ _ _ _ _ _ rfl yA' Try.underlying62 rfl (by kernel_rfl) rfl yC Try.underlying62 rfl (by kernel_rfl)) rfl ?_
    exact ⟨_, rfl, (HV3.out.grown gA (fun k e e' => by have := HN1.out k e; injection e' with e'; omega)).grown gC (fun k e e' => by have := HN1.out k e; injection e' with e'; omega), fun k e => by have := HN1.out k e; omega, below_row5 (below_row5 HB3.out HB3.out.size gA (Nat.le_succ _)) (by have := gA.size; have := HB3.out.size; omega) gC (by omega)⟩

theorem doc_sub_b (vB : Value) (s : St) (n sh2 od2 : Int) (w : World) (h : Ints .u8 w vB s.bs) (hs : s.pos ≤ s.bs.length) (hbd : s.bs.length ≤ 1000000000) (hsh : s.sh ≠ 0) (he : s.er = 0) :
    Calls Try.prog 76 #[.agg (docA vB s), .int .i64 n, .int .i64 sh2, .int .i64 od2] w fun e w' => ∃ v, e = .returned (.tuple #[.agg (docA vB (s.bytes n).1), .agg (docA v (St.fresh (s.bytes n).2 sh2 od2)), .bool (s.takes n)]) ∧ Ints .u8 w' v (s.bytes n).2 ∧ New w.heap.size v ∧ Below w.heap.size w w' := by
  rw [takes_er hsh he]
  have HX := Lib.hid h
  obtain ⟨a, cap, b, off, rfl, -⟩ := h.open
  have hsame := bytes_same2 s n
  have HBt := fun w h => Lib.hid (doc_bytes (.slice a s.bs.length cap) s n w h hs hbd)
  obtain ⟨z', he'⟩ : ∃ z, (s.bytes n).1.er = z := ⟨_, rfl⟩
  generalize (s.bytes n).2 = l at HBt ⊢
  generalize (s.bytes n).1 = s' at HBt hsame he' ⊢
  obtain ⟨bs0, pos, sh0, od0, er⟩ := s
  obtain ⟨bs, pos', sh, od, er'⟩ := s'
  obtain ⟨q1, q2, q3⟩ := hsame
  dsimp only at q1 q2 q3 he he'
  subst q1 q2 q3
  have HBx : Hid (Below w.heap.size w (((w.alloc (.cells (docA (.slice a bs.length cap) ⟨bs, pos, sh, od, er⟩) 62)).alloc (.cells docZ 62)).alloc (.cells docZ 62))) := (below_al2 _ _).alloc (by simp; omega) _
  have HA0 : Hid ((((w.alloc (.cells (docA (.slice a bs.length cap) ⟨bs, pos, sh, od, er⟩) 62)).alloc (.cells docZ 62)).alloc (.cells docZ 62)).heap[w.heap.size + 1]? = some (.cells docZ 62 (0, 0))) := ((below_al (.cells docZ 62)).block _ (by simp)).trans (heap_alloc2_new _ _ _)
  have HC0 : Hid ((((w.alloc (.cells (docA (.slice a bs.length cap) ⟨bs, pos, sh, od, er⟩) 62)).alloc (.cells docZ 62)).alloc (.cells docZ 62)).heap[w.heap.size + 2]? = some (.cells docZ 62 (0, 0))) := by
    have := heap_alloc_new ((w.alloc (.cells (docA (.slice a bs.length cap) ⟨bs, pos, sh, od, er⟩) 62)).alloc (.cells docZ 62)) (.cells docZ 62)
    rw [World.size_alloc, World.size_alloc] at this
    exact this
  have HB0 : Hid ((((w.alloc (.cells (docA (.slice a bs.length cap) ⟨bs, pos, sh, od, er⟩) 62)).alloc (.cells docZ 62)).alloc (.cells docZ 62)).heap[w.heap.size]? = some (.cells (docA (.slice a bs.length cap) ⟨bs, pos, sh, od, er⟩) 62 (0, 0))) := ((below_al (.cells docZ 62)).block w.heap.size (by simp; omega)).trans (((below_al (w := w.alloc (.cells (docA (.slice a bs.length cap) ⟨bs, pos, sh, od, er⟩) 62)) (.cells docZ 62)).block w.heap.size (by simp)).trans (heap_alloc_new _ _))
  have HBt0 := HBt (((w.alloc (.cells (docA (.slice a bs.length cap) ⟨bs, pos, sh, od, er⟩) 62)).alloc (.cells docZ 62)).alloc (.cells docZ 62)) (HX.out.below HBx.out)
  clear h hs
  subst he
  clear he'
  go_enter Try.func76, Try.ntmps76
  go_wp2_with (first
    | (go_at_call 74
       (with_reducible refine HBt0.out.mono ?_)
       rintro e1 w1 ⟨v3, rfl, hv, hn, hb⟩
       have HB1 := Lib.hid (HBx.out.trans (hb.mono HBx.out.size))
       have HBb1 := Lib.hid ((hb.block w.heap.size (by simp; omega)).trans HB0.out)
       have HA1 := Lib.hid ((hb.block (w.heap.size + 1) (by simp)).trans HA0.out)
       have HC1 := Lib.hid ((hb.block (w.heap.size + 2) (by simp)).trans HC0.out)
       have HV1 := Lib.hid hv
       have HN1 : Hid (New (w.heap.size + 3) v3) := fun k e => (by have := hn k e; simp at this; omega)
       obtain ⟨a3, c3, b3, o3, rfl, -⟩ := hv.open
       clear hb hv hn)
    | (refine wpList_store_rowTo rfl 62 _ _ rfl rfl w.heap.size #[.slice a bs.length cap, .int .i64 pos', .int .i64 sh, .int .i64 od, .int .i64 er'] rfl rfl _ _ HBb1.out (by kernel_rfl) (by kernel_rfl) (by kernel_rfl) ?_
       have HB2 := Lib.hid (below_setR HB1.out (Nat.le_refl _) #[.slice a bs.length cap, .int .i64 pos', .int .i64 sh, .int .i64 od, .int .i64 er'])
       have HBb2 := Lib.hid (setRow_heap w1 w.heap.size _ #[.slice a bs.length cap, .int .i64 pos', .int .i64 sh, .int .i64 od, .int .i64 er'] _ _ HBb1.out)
       have HA2 := Lib.hid ((setRow_other w1 w.heap.size (w.heap.size + 1) #[.slice a bs.length cap, .int .i64 pos', .int .i64 sh, .int .i64 od, .int .i64 er'] (by omega)).trans HA1.out)
       have HC2 := Lib.hid ((setRow_other w1 w.heap.size (w.heap.size + 2) #[.slice a bs.length cap, .int .i64 pos', .int .i64 sh, .int .i64 od, .int .i64 er'] (by omega)).trans HC1.out)
       have HV2 := Lib.hid (ints_setR (g := w.heap.size) HV1.out (fun k e => by have := HN1.out k e; omega) #[.slice a bs.length cap, .int .i64 pos', .int .i64 sh, .int .i64 od, .int .i64 er'])
       clear HBb1 HA1 HC1 HV1
       generalize w1.setRow w.heap.size #[.slice a bs.length cap, .int .i64 pos', .int .i64 sh, .int .i64 od, .int .i64 er'] = w2 at HB2 HBb2 HA2 HC2 HV2 ⊢
       have HNw := Lib.hid (doc_new (.slice a3 l.length c3) l sh2 od2 w2.drew (HV2.out.below (below_drewN (Below.refl _ _) 1)))
       have k0 : w2.cell? ⟨w.heap.size, 0, none⟩ = some (.slice a bs.length cap) := cell_at HBb2.out 0
       have k1 : w2.cell? ⟨w.heap.size, 1, none⟩ = some (.int .i64 pos') := cell_at HBb2.out 1
       have k2 : w2.cell? ⟨w.heap.size, 2, none⟩ = some (.int .i64 sh) := cell_at HBb2.out 2
       have k3 : w2.cell? ⟨w.heap.size, 3, none⟩ = some (.int .i64 od) := cell_at HBb2.out 3
       have k4 : w2.cell? ⟨w.heap.size, 4, none⟩ = some (.int .i64 er') := cell_at HBb2.out 4
       skip))
  first
  | go_region_law (go_simp
                   go_at_call 43
                   (with_reducible refine HNw.out.mono ?_)
                   rintro e1 w3 ⟨rfl, hb⟩
                   have hb := (below_drewN (Below.refl w2.heap.size w2) 1).trans hb
                   have HB3 := Lib.hid (HB2.out.trans (hb.mono HB2.out.size))
                   have HBb3 := Lib.hid ((hb.block w.heap.size (Array.getElem?_eq_some_iff.1 HBb2.out).1).trans HBb2.out)
                   have HA3 := Lib.hid ((hb.block (w.heap.size + 1) (Array.getElem?_eq_some_iff.1 HA2.out).1).trans HA2.out)
                   have HC3 := Lib.hid ((hb.block (w.heap.size + 2) (Array.getElem?_eq_some_iff.1 HC2.out).1).trans HC2.out)
                   have HV3 := Lib.hid (HV2.out.below hb)
                   clear hb
                   have m0 : w3.cell? ⟨w.heap.size, 0, none⟩ = some (.slice a bs.length cap) := cell_at HBb3.out 0
                   have m1 : w3.cell? ⟨w.heap.size, 1, none⟩ = some (.int .i64 pos') := cell_at HBb3.out 1
                   have m2 : w3.cell? ⟨w.heap.size, 2, none⟩ = some (.int .i64 sh) := cell_at HBb3.out 2
                   have m3 : w3.cell? ⟨w.heap.size, 3, none⟩ = some (.int .i64 od) := cell_at HBb3.out 3
                   have m4 : w3.cell? ⟨w.heap.size, 4, none⟩ = some (.int .i64 er') := cell_at HBb3.out 4
                   have Az0 : w3.cell? ⟨w.heap.size + 1, 0, none⟩ = some (.slice none 0 0) := cell_at HA3.out 0
                   have Af0 : w3.frozen? ⟨w.heap.size + 1, 0, none⟩ = false := (by simp only [World.frozen?, HA3.out]; rfl)
                   have Az1 : w3.cell? ⟨w.heap.size + 1, 1, none⟩ = some (.int .i64 0) := cell_at HA3.out 1
                   have Af1 : w3.frozen? ⟨w.heap.size + 1, 1, none⟩ = false := (by simp only [World.frozen?, HA3.out]; rfl)
                   have Az2 : w3.cell? ⟨w.heap.size + 1, 2, none⟩ = some (.int .i64 0) := cell_at HA3.out 2
                   have Af2 : w3.frozen? ⟨w.heap.size + 1, 2, none⟩ = false := (by simp only [World.frozen?, HA3.out]; rfl)
                   have Az3 : w3.cell? ⟨w.heap.size + 1, 3, none⟩ = some (.int .i64 0) := cell_at HA3.out 3
                   have Af3 : w3.frozen? ⟨w.heap.size + 1, 3, none⟩ = false := (by simp only [World.frozen?, HA3.out]; rfl)
                   have Az4 : w3.cell? ⟨w.heap.size + 1, 4, none⟩ = some (.int .i64 0) := cell_at HA3.out 4
                   have Af4 : w3.frozen? ⟨w.heap.size + 1, 4, none⟩ = false := (by simp only [World.frozen?, HA3.out]; rfl)
                   have Cz0 : w3.cell? ⟨w.heap.size + 2, 0, none⟩ = some (.slice none 0 0) := cell_at HC3.out 0
                   have Cf0 : w3.frozen? ⟨w.heap.size + 2, 0, none⟩ = false := (by simp only [World.frozen?, HC3.out]; rfl)
                   have Cz1 : w3.cell? ⟨w.heap.size + 2, 1, none⟩ = some (.int .i64 0) := cell_at HC3.out 1
                   have Cf1 : w3.frozen? ⟨w.heap.size + 2, 1, none⟩ = false := (by simp only [World.frozen?, HC3.out]; rfl)
                   have Cz2 : w3.cell? ⟨w.heap.size + 2, 2, none⟩ = some (.int .i64 0) := cell_at HC3.out 2
                   have Cf2 : w3.frozen? ⟨w.heap.size + 2, 2, none⟩ = false := (by simp only [World.frozen?, HC3.out]; rfl)
                   have Cz3 : w3.cell? ⟨w.heap.size + 2, 3, none⟩ = some (.int .i64 0) := cell_at HC3.out 3
                   have Cf3 : w3.frozen? ⟨w.heap.size + 2, 3, none⟩ = false := (by simp only [World.frozen?, HC3.out]; rfl)
                   have Cz4 : w3.cell? ⟨w.heap.size + 2, 4, none⟩ = some (.int .i64 0) := cell_at HC3.out 4
                   have Cf4 : w3.frozen? ⟨w.heap.size + 2, 4, none⟩ = false := (by simp only [World.frozen?, HC3.out]; rfl)
                   skip)
  | fail
  all_goals go_wp2
  all_goals
    obtain ⟨yA, gA⟩ := rows5 HA3.out (.slice a bs.length cap) (.int .i64 pos') (.int .i64 sh) (.int .i64 od) (.int .i64 er')
    have hs3 : w.heap.size + 2 < w3.heap.size := (Array.getElem?_eq_some_iff.1 HC3.out).1
    have HC4 := (gA.block (w.heap.size + 1 + 1) hs3 (by intro e; injection e; omega)).trans HC3.out
    obtain ⟨yC, gC⟩ := rows5 HC4 (.slice a3 l.length c3) (.int .i64 ((St.fresh l sh2 od2).pos : Nat)) (.int .i64 (St.fresh l sh2 od2).sh) (.int .i64 (St.fresh l sh2 od2).od) (.int .i64 (St.fresh l sh2 od2).er)
    have yA' := (gC.block (w.heap.size + 1) (by have := gA.size; omega) (by intro e; injection e; omega)).trans yA
    refine bodyPost_ret (res_row_row_tmp rfl _ _ (w.heap.size + 1) (w.heap.size + 1 + 1) _ _ _ _ _ _ _ _ rfl yA' Try.underlying62 rfl (by kernel_rfl) rfl yC Try.underlying62 rfl (by kernel_rfl)) rfl ?_
    exact ⟨_, rfl, (HV3.out.grown gA (fun k e e' => by have := HN1.out k e; injection e' with e'; omega)).grown gC (fun k e e' => by have := HN1.out k e; injection e' with e'; omega), fun k e => by have := HN1.out k e; omega, below_row5 (below_row5 HB3.out HB3.out.size gA (Nat.le_succ _)) (by have := gA.size; have := HB3.out.size; omega) gC (by omega)⟩

theorem doc_sub (vB : Value) (s : St) (n sh2 od2 : Int) (w : World) (h : Ints .u8 w vB s.bs) (hs : s.pos ≤ s.bs.length) (hbd : s.bs.length ≤ 1000000000) (hsh : s.sh ≠ 0) :
    Calls Try.prog 76 #[.agg (docA vB s), .int .i64 n, .int .i64 sh2, .int .i64 od2] w fun e w' => ∃ v, e = .returned (.tuple #[.agg (docA vB (s.bytes n).1), .agg (docA v (St.fresh (s.bytes n).2 sh2 od2)), .bool (s.takes n)]) ∧ Ints .u8 w' v (s.bytes n).2 ∧ New w.heap.size v ∧ Below w.heap.size w w' := by
  by_cases he : s.er = 0
  · exact doc_sub_b vB s n sh2 od2 w h hs hbd hsh he
  · exact doc_sub_a vB s n sh2 od2 w h hs hbd hsh he
end Go.Proofs.Ytdljlcbjpfgmcaa
