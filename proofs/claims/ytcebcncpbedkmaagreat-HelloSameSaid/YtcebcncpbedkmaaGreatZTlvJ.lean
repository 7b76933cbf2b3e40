/- The walk of tlv.Cut. Conditions: the argument reads as bytes, at most 10^9. -/
import Derived.Test.YtcebcncpbedkmaaGreatZTlvF
import Derived.Test.YtcebcncpbedkmaaGreatZCurA
import Derived.Test.YtcebcncpbedkmaaGreatZRangeB
import Derived.WalkSmall
namespace Go.Proofs.YtcebcncpbedkmaaGreat
open Go Go.RowKit Go.Shelf
attribute [local go_sem] Oper.semAt_some
set_option maxRecDepth 100000
set_option maxHeartbeats 4000000

theorem info_item : (Tryz.prog.info? 108).map (fun i => (i.zero, i.size, i.bytes)) = some (some (.agg #[.int .i64 0, .slice none 0 0]), 2, 32) := by kernel_rfl

/-- What Cut hands back. -/
def GotCut (s : Sh) (bs : List Int) (w : World) (e : Ending) (w' : World) : Prop :=
  ∃ v, e = .returned (.tuple #[v, .int .i64 (s.cut bs).2]) ∧ OutRows w.heap.size w' v (s.cut bs).1 ∧ Below w.heap.size w w'

theorem own_low {k : IntKind} {w : World} {v : Value} {zs : List Int} (h : Ints k w v zs) (h0 : 0 < zs.length) : ∀ b, v.ownBlock = some b → b < w.heap.size := by
  obtain ⟨a, cap, b, off, rfl, -, -, -, h4, h5⟩ := h.open
  obtain rfl := h4 h0
  intro b' hb'
  have := World.block_lt_of_cell? _ _ (h5 0 h0)
  have e : b = b' := by simpa [Value.ownBlock] using hb'
  subst e
  exact this

theorem own_cells {L e size n g : Nat} {W : World} {v : Value} {xs : List Value} (h : W.ownsRow L e size v n xs) (hg : v.ownBlock = some g) : ∃ cur, W.heap[g]? = some (.cells cur e (0, 0)) := by
  obtain ⟨-, ⟨rfl, -⟩ | ⟨g', cap, cur, rfl, -, h2, -⟩⟩ := h
  · cases hg
  · have e1 : g' = g := by simpa [Value.ownBlock] using hg
    subst e1
    exact ⟨cur, h2⟩

/-- Since w a shape and two results have been laid; they stand. -/
structure Cut0 (w : World) (s : Sh) (w' : World) : Prop where
  below : Below w.heap.size w w'
  size : w.heap.size + 3 ≤ w'.heap.size
  sh : w'.heap[w.heap.size]? = some (.cells #[.int .i64 s.least, .int .i64 s.step, .bool s.pad, .int .i64 s.bad, .int .i64 s.odd] 111 (0, 0))
  r1 : w'.heap[w.heap.size + 1]? = some (.cells #[.slice none 0 0] 106 (0, 0))
  r2 : w'.heap[w.heap.size + 1 + 1]? = some (.cells #[.int .i64 0] 54 (0, 0))
theorem Cut0.start (w : World) (s : Sh) : Cut0 w s (((w.alloc (.cells #[.int .i64 s.least, .int .i64 s.step, .bool s.pad, .int .i64 s.bad, .int .i64 s.odd] 111)).alloc (.cells #[.slice none 0 0] 106)).alloc (.cells #[.int .i64 0] 54)) where
  below := (((Below.refl _ w).alloc (Nat.le_refl _) _).alloc (by simp) _).alloc (by simp; omega) _
  size := by simp
  sh := (heap_alloc_old _ _ (by simp; omega)).trans ((heap_alloc_old _ _ (by simp)).trans (heap_alloc_new w _))
  r1 := by
    refine (heap_alloc_old _ _ (by simp)).trans ?_
    have := heap_alloc_new (w.alloc (.cells #[.int .i64 s.least, .int .i64 s.step, .bool s.pad, .int .i64 s.bad, .int .i64 s.odd] 111)) (.cells #[.slice none 0 0] 106)
    simpa using this
  r2 := by
    have := heap_alloc_new ((w.alloc (.cells #[.int .i64 s.least, .int .i64 s.step, .bool s.pad, .int .i64 s.bad, .int .i64 s.odd] 111)).alloc (.cells #[.slice none 0 0] 106)) (.cells #[.int .i64 0] 54)
    simpa using this
theorem Cut0.step {w w1 w2 : World} {s : Sh} {B : Nat} (h : Cut0 w s w1) (hb : Below B w1 w2) (hB : w.heap.size + 3 ≤ B) : Cut0 w s w2 where
  below := h.below.trans (hb.mono (by omega))
  size := Nat.le_trans h.size hb.size
  sh := (hb.block _ (by omega)).trans h.sh
  r1 := (hb.block _ (by omega)).trans h.r1
  r2 := (hb.block _ (by omega)).trans h.r2
theorem Cut0.cells {w w' : World} {s : Sh} (h : Cut0 w s w') :
    w'.cell? ⟨w.heap.size, 0, none⟩ = some (.int .i64 s.least) ∧ w'.cell? ⟨w.heap.size, 1, none⟩ = some (.int .i64 s.step) ∧ w'.cell? ⟨w.heap.size, 2, none⟩ = some (.bool s.pad) ∧ w'.cell? ⟨w.heap.size, 3, none⟩ = some (.int .i64 s.bad) ∧ w'.cell? ⟨w.heap.size, 4, none⟩ = some (.int .i64 s.odd) ∧
    w'.cell? ⟨w.heap.size + 1, 0, none⟩ = some (.slice none 0 0) ∧ w'.cell? ⟨w.heap.size + 1 + 1, 0, none⟩ = some (.int .i64 0) ∧ w'.frozen? ⟨w.heap.size + 1, 0, none⟩ = false ∧ w'.frozen? ⟨w.heap.size + 1 + 1, 0, none⟩ = false :=
  ⟨cell_row h.sh 0, cell_row h.sh 1, cell_row h.sh 2, cell_row h.sh 3, cell_row h.sh 4, cell_row h.r1 0, cell_row h.r2 0, frozen_row h.r1 0, frozen_row h.r2 0⟩

theorem tlv_cut {s : Sh} {v : Value} {bs : List Int} {w : World} (h : Ints .u8 w v bs) (hl : bs.length ≤ 1000000000) : Calls Tryz.prog 66 #[s.val, v] w (GotCut s bs w) := by
  refine (callsIn_wide (n := 4)).1 ?_
  refine callsIn_of_wp_marks Tryz.func66 rfl trivial ?_ rfl
  obtain ⟨a, cap, b, off, rfl, -⟩ := h.open
  have HM := Lib.hid (sh_may s)
  have HI := Lib.hid h
  clear h
  simp only [Sh.val]
  simp only [Tryz.ntmps66, List.size_toArray, List.length_cons, List.length_nil, Nat.reduceAdd, Nat.reduceSub, Array.replicate_succ, Array.replicate_zero, List.push_toArray, List.append_toArray, List.nil_append, List.cons_append]
  gi_wp2
  refine ⟨trivial, ?_⟩
  refine (callsIn_wide.2 (HM.out _)).mono ?_
  rintro e w1 ⟨rfl, hb⟩
  have H1 := Lib.hid ((Cut0.start w s).step hb (by simp))
  obtain ⟨c0, c1, c2, c3, c4, d0, d1, f0, f1⟩ := H1.out.cells
  clear hb
  cases hm : s.may with
  | false =>
    gi_wp2
    have hb := H1.out.below
    have hs3 := H1.out.size
    have k1 : ((w1.setCell ⟨w.heap.size + 1, 0, none⟩ (.slice none 0 0)).setCell ⟨w.heap.size + 1 + 1, 0, none⟩ (.int .i64 10001)).cell? ⟨w.heap.size + 1, 0, none⟩ = some (.slice none 0 0) :=
      cell_row (((grown_put _ (w.heap.size + 1 + 1) 0 _).block (w.heap.size + 1) (by simp; omega) (fun e => by injection e with e; omega)).trans (heap_put H1.out.r1 0 _)) 0
    have k2 : ((w1.setCell ⟨w.heap.size + 1, 0, none⟩ (.slice none 0 0)).setCell ⟨w.heap.size + 1 + 1, 0, none⟩ (.int .i64 10001)).cell? ⟨w.heap.size + 1 + 1, 0, none⟩ = some (.int .i64 10001) :=
      cell_row (heap_put (((grown_put w1 (w.heap.size + 1) 0 _).block (w.heap.size + 1 + 1) (by omega) (fun e => by injection e with e; omega)).trans H1.out.r2) 0 _) 0
    refine ⟨.tuple #[.slice none 0 0, .int .i64 10001], ?_, ?_⟩
    · simp [results, Tryz.f66, go_sem, k1, k2]
    · have hc : s.cut bs = ([], 10001) := by unfold Sh.cut; rw [hm]; rfl
      unfold GotCut
      rw [hc]
      exact ⟨_, rfl, OutRows.nil _ _, (hb.grown (grown_put _ _ _ _) hb.size (fun k e => by injection e with e; omega)).grown (grown_put _ _ _ _) (by simp; omega) (fun k e => by injection e with e; omega)⟩
  | true =>
    have h2 := H1.out.step (below_alloc2 (.cells #[.slice none 0 0] 106)) H1.out.size
    clear c0 c1 c2 c3 c4 d0 d1 f0 f1
    obtain ⟨c0, c1, c2, c3, c4, d0, d1, f0, f1⟩ := h2.cells
    clear h2
    gi_wp2
    refine ⟨trivial, ?_⟩
    refine (callsIn_wide.2 (tlv_each _)).mono ?_
    rintro e w2 ⟨rfl, rfl⟩
    gi_wp2
    obtain ⟨wL, hwL⟩ : ∃ wL, ((w1.alloc (.cells #[.slice none 0 0] 106)).alloc (.cells #[.int .i64 s.least, .int .i64 s.step, .bool s.pad, .int .i64 s.bad, .int .i64 s.odd] 111)).alloc (.cells #[.slice a bs.length cap] 24) = wL := ⟨_, rfl⟩
    have hsz : wL.heap.size = w1.heap.size + 3 := by rw [← hwL]; simp
    have hsO : wL.heap[w1.heap.size]? = some (.cells #[.slice none 0 0] 106 (0, 0)) := by
      rw [← hwL]; exact (heap_alloc_old _ _ (by simp; omega)).trans ((heap_alloc_old _ _ (by simp)).trans (heap_alloc_new w1 _))
    have hsS : wL.heap[w1.heap.size + 1]? = some (.cells #[.int .i64 s.least, .int .i64 s.step, .bool s.pad, .int .i64 s.bad, .int .i64 s.odd] 111 (0, 0)) := by
      rw [← hwL]
      refine (heap_alloc_old _ _ (by simp)).trans ?_
      have := heap_alloc_new (w1.alloc (.cells #[.slice none 0 0] 106)) (.cells #[.int .i64 s.least, .int .i64 s.step, .bool s.pad, .int .i64 s.bad, .int .i64 s.odd] 111)
      simpa using this
    have hsB : wL.heap[w1.heap.size + 1 + 1]? = some (.cells #[.slice a bs.length cap] 24 (0, 0)) := by
      rw [← hwL]
      have := heap_alloc_new ((w1.alloc (.cells #[.slice none 0 0] 106)).alloc (.cells #[.int .i64 s.least, .int .i64 s.step, .bool s.pad, .int .i64 s.bad, .int .i64 s.odd] 111)) (.cells #[.slice a bs.length cap] 24)
      simpa using this
    have hbL : Below w1.heap.size w1 wL := by rw [← hwL]; exact (((Below.refl _ w1).alloc (Nat.le_refl _) _).alloc (by simp) _).alloc (by simp; omega) _
    rw [hwL]
    clear hwL c0 c1 c2 c3 c4 d0 d1 f0 f1
    have HsO := Lib.hid hsO
    have HsS := Lib.hid hsS
    have HsB := Lib.hid hsB
    have HbL := Lib.hid hbL
    have HLw := Lib.hid (H1.out.below.trans (hbL.mono H1.out.below.size))
    have hs3 := H1.out.size
    have HI0 : Hid (CutI w (w1.heap.size + 5) w1.heap.size [] wL) := ⟨HLw.out, (hbL.block _ (by omega)).trans H1.out.r1, (hbL.block _ (by omega)).trans H1.out.r2, ⟨by omega, by omega⟩, ⟨_, hsO, OutRows.nil _ _⟩⟩
    have HU := Lib.hid HI.out.u8
    clear hsO hsS hsB hbL
    refine wpIn_range_box rfl (by omega) (gf := 112) (lb := #[.pointer (some ⟨w1.heap.size + 1 + 1, 0, none⟩), .pointer (some ⟨w1.heap.size + 1, 0, none⟩)]) rfl trivial (enters_of Tryz.func112 (by kernel_rfl) rfl) (Bb := w1.heap.size + 1 + 1) (by omega)
      (V0 := fun pre x args W0 W1 => ∃ ab capb, args = #[.agg #[.int .i64 x.1, .slice ab x.2.length capb], .int .i64 0] ∧ W1.ownsRow W0.heap.size 5 1 (.slice ab x.2.length capb) x.2.length (x.2.map (Value.int .u8)) ∧ U8 x.2 ∧ (0 ≤ x.1 ∧ x.1 < 65536) ∧ x.2.length ≤ 1000000000 ∧ pre.length < bs.length)
      (V1 := fun er args => er ≠ 0 ∧ ∃ t ab m capb, args = #[.agg #[.int .i64 t, .slice ab m capb], .int .i64 er])
      (Kp := Kept w.heap.size (w1.heap.size + 1) (w1.heap.size + 1 + 1)) (S := fun xs => s.cut bs = (xs, 0)) (Sx := fun er => er ≠ 0 ∧ s.cut bs = ([], er))
      ?seq ?kt ?ka ?kb (CutI w (w1.heap.size + 5) w1.heap.size) (CutX w (w1.heap.size + 3)) ?hI ?hIb ?hIx HI0.out ?p0 ?p1
      (fun args X => { tmps := #[.agg #[.int .i64 s.least, .int .i64 s.step, .bool s.pad, .int .i64 s.bad, .int .i64 s.odd], .slice a bs.length cap, .pointer (some ⟨w.heap.size, 0, none⟩), undef, .pointer (some ⟨w.heap.size + 1, 0, none⟩), .pointer (some ⟨w.heap.size + 1 + 1, 0, none⟩), .pointer (some ⟨w1.heap.size, 0, none⟩), .pointer (some ⟨X, 0, none⟩), args.getD 1 undef, .agg #[.int .i64 s.least, .int .i64 s.step, .bool s.pad, .int .i64 s.bad, .int .i64 s.odd], .bool true, .bool false, .agg #[.int .i64 s.least, .int .i64 s.step, .bool s.pad, .int .i64 s.bad, .int .i64 s.odd], .slice a bs.length cap, .func (.func 112) #[] #[.pointer (some ⟨w1.heap.size + 1 + 1, 0, none⟩), .pointer (some ⟨w1.heap.size + 1, 0, none⟩)], args.getD 0 undef, args.getD 1 undef, undef, undef, undef, undef, undef, undef, undef, undef], defers := [] })
      (fun args => .cells (match args.getD 0 undef with | .agg cs => cs | _ => #[]) 108) ?assign ?body0 ?body1 ?done ?stop
    case seq =>
      intro l J Jx W hb hJ hY0 hY1 h0
      have hx := each1_in 3 (by omega) l (w1.heap.size + 1) (w1.heap.size + 1 + 1) w.heap.size s hm bs HU.out hl J Jx (by omega) (by omega) (by omega) hJ
        (fun pre t bv zs W0 W1 h1 h2 h3 h4 h5 h6 h7 => by
          obtain ⟨ab, capb, rfl⟩ := own_slice h3
          exact hY0 pre (t, zs) _ W0 W1 h1 h2 ⟨ab, capb, rfl, h3, h4, h5, h6, h7⟩)
        (fun pre t ab m capb er W0 W1 h1 h2 h3 => hY1 pre er _ W0 W1 h2 h3 ⟨h1, t, ab, m, capb, rfl⟩)
        W (.slice a bs.length cap) (HI.out.below (HLw.out.trans (hb.mono (by omega)))) (fun h0' b' hb' => own_low HI.out h0' b' hb')
        ((hb.block _ (by omega)).trans HsB.out) ((hb.block _ (by omega)).trans HsS.out) h0
      refine hx.mono ?_
      rintro e W' ⟨h1, (⟨xs, h2, h3⟩ | ⟨er, h2, h3, h4⟩)⟩
      · exact ⟨h1, .inl ⟨xs, h2, h3⟩⟩
      · exact ⟨h1, .inr ⟨er, ⟨h2, h3⟩, h4⟩⟩
    case kt => exact fun A B C h1 h2 => ⟨h1.1.trans h2.1, h2.2.1.trans h1.2.1, h2.2.2.trans h1.2.2⟩
    case ka => exact fun W o hW => ⟨(Below.refl _ W).alloc (by omega) o, heap_alloc_old _ _ (by omega), heap_alloc_old _ _ (by omega)⟩
    case kb => exact fun W o hW => ⟨(Below.refl _ W).grown (grownBy_putObj' W _ o) (by omega) (fun k e => by injection e with e; omega), World.putObj_heap_other (by omega), World.putObj_heap_other (by omega)⟩
    case hI => exact fun pre A B r h1 h2 h3 => h1.turn h2 (by omega) (by omega)
    case hIb => exact fun pre A B h1 h2 => h1.later h2
    case hIx => exact fun er A B h1 h2 => h1.turn h2 (by omega)
    case p0 => rintro pre x args W0 W1 ⟨ab, capb, rfl, -⟩; rfl
    case p1 => rintro er args ⟨-, t, ab, m, capb, rfl⟩; rfl
    case assign =>
      rintro args W K (⟨pre, x, W0, ab, capb, rfl, -⟩ | ⟨er, -, t, ab, m, capb, rfl⟩) hK
      · gi_wp2
        exact hK
      · gi_wp2
        exact hK
    case body0 =>
      rintro pre x args W0 W1 W3 hI0 hbl ⟨ab, capb, rfl, hown, hu8, ht, hzl, hpl⟩ hg3 hs0
      obtain ⟨t, zs⟩ := x
      simp only at hown hu8 ht hzl hg3 ⊢
      have hC1 := (hI0.later hbl).later (below_alloc2 (.cells #[.int .i64 t, .slice ab zs.length capb] 108))
      have hC3 := hC1.turn hg3 (by omega) (by omega)
      have hs1 := hbl.size
      have hX3 : W3.heap[W1.heap.size]? = some (.cells #[.int .i64 t, .slice ab zs.length capb] 108 (0, 0)) := (hg3.block _ (by simp) (fun e => by injection e with e; omega)).trans (heap_alloc_new _ _)
      have i0 : W3.cell? ⟨W1.heap.size, 0, none⟩ = some (.int .i64 t) := cell_row hX3 0
      have i1 : W3.cell? ⟨W1.heap.size, 1, none⟩ = some (.slice ab zs.length capb) := cell_row hX3 1
      obtain ⟨v, hv, xs, ho, hx⟩ := hC3.out
      obtain ⟨av, capv, rfl⟩ := own_slice ho
      have o0 : W3.cell? ⟨w1.heap.size, 0, none⟩ = some (.slice av pre.length capv) := cell_row hv 0
      have hob : W3.ownsRow (w1.heap.size + 5) 5 1 (.slice ab zs.length capb) zs.length (zs.map (Value.int .u8)) := own_base (own_other (own_below hown (below_alloc2 (.cells #[.int .i64 t, .slice ab zs.length capb] 108))) hg3 (fun k e => by injection e with e; omega)) (by omega)
      have hs3' : W1.heap.size + 1 ≤ W3.heap.size := by have := hg3.size; simp at this; omega
      obtain ⟨ii, hi, hz0, hz1, hz2⟩ := info_parts info_item
      have HC3 := Lib.hid hC3
      have Hv := Lib.hid hv
      have Ho := Lib.hid ho
      have Hx := Lib.hid hx
      have Hob := Lib.hid hob
      clear hC1 hC3 hv ho hx hob hown hg3 hX3 hI0 hbl
      gi_wp2_with (gi_at_builtin; refine wpListIn_append_own _ rfl _ _ 106 rfl (w1.heap.size + 5) 108 ii (.agg #[.int .i64 0, .slice none 0 0]) 2 32 Tryz.underlying106 hi hz0 hz1 hz2 rfl (by decide) _ _ _ rfl (Ho.out.alloc _) ⟨W3.heap.size, 0, none⟩ 1 1 [.int .i64 t, .slice ab zs.length capb] rfl rfl (cell_two_new _ _ _ _) (by simp [Value.oneCell']) (by unfold maxLen; omega) (by omega) (by simp; omega) ?_; intro v' w4 hown' hgrow _; obtain ⟨a', cap', rfl⟩ := own_slice hown'; have ho4 : w4.heap[w1.heap.size]? = some (.cells #[.slice av pre.length capv] 106 (0, 0)) := (hgrow.block w1.heap.size (by simp; omega) (fun e => by have := (Ho.out.lt _ e.symm).1; omega)).trans ((heap_alloc_old _ _ (by omega)).trans Hv.out); have p0 : w4.cell? ⟨w1.heap.size, 0, none⟩ = some (.slice av pre.length capv) := cell_row ho4 0; have p1 : w4.frozen? ⟨w1.heap.size, 0, none⟩ = false := frozen_row ho4 0; have HP4 := Lib.hid ho4; have HO4 := Lib.hid hown'; have HG4 := Lib.hid hgrow; clear hown' hgrow ho4)
      have hge : ∀ k, (Value.slice av pre.length capv).ownBlock = some k → w1.heap.size + 5 ≤ k := fun k e => (Ho.out.lt k e).1
      have hsz4 : W3.heap.size + 1 ≤ w4.heap.size := by have := HG4.out.size; simpa using this
      have key : ∀ k, k < W3.heap.size → k ≠ w1.heap.size → some k ≠ (Value.slice av pre.length capv).ownBlock → (w4.setCell ⟨w1.heap.size, 0, none⟩ (.slice a' (pre.length + 1) cap')).heap[k]? = W3.heap[k]? := fun k h1 h2 h3 =>
        ((grown_put w4 w1.heap.size 0 _).block k (by omega) (fun e => by injection e with e; omega)).trans ((HG4.out.block k (by simp; omega) h3).trans (heap_alloc_old _ _ h1))
      have hbel : ∀ n₀, n₀ ≤ w1.heap.size → Below n₀ W3 (w4.setCell ⟨w1.heap.size, 0, none⟩ (.slice a' (pre.length + 1) cap')) := fun n₀ hn =>
        ((((Below.refl n₀ W3).alloc (by omega) _).grown HG4.out (by simp; omega) (fun k e => by have := hge k e; omega))).grown (grown_put _ _ _ _) (by omega) (fun k e => by injection e with e; omega)
      have hsz5 : (w4.setCell ⟨w1.heap.size, 0, none⟩ (.slice a' (pre.length + 1) cap')).heap.size = w4.heap.size := by simp
      refine ⟨⟨by omega, fun k o hk ho hc => ?_⟩, ⟨hbel _ (by omega), ?_, ?_⟩, ⟨HC3.out.below.trans (hbel _ (by omega)), ?_, ?_, ⟨by omega, by omega⟩, ⟨_, heap_put HP4.out 0 _, ?_⟩⟩⟩
      · refine (key k (Array.getElem?_eq_some_iff.1 ho).1 (by omega) (fun e => ?_)).trans ho
        obtain ⟨cur, hcur⟩ := own_cells Ho.out e.symm
        rw [hcur] at ho
        injection ho with ho
        subst ho
        cases hc
      · exact key _ (by omega) (by omega) (fun e => by have := hge _ e.symm; omega)
      · exact key _ (by omega) (by omega) (fun e => by have := hge _ e.symm; omega)
      · exact (key _ (by omega) (by omega) (fun e => by have := hge _ e.symm; omega)).trans HC3.out.r1
      · exact (key _ (by omega) (by omega) (fun e => by have := hge _ e.symm; omega)).trans HC3.out.r2
      · have h1 := own_below Ho.out (below_alloc2 (.cells #[.int .i64 t, .slice ab zs.length capb] 108))
        refine (OutRows.snoc (own_below Hob.out (below_alloc2 (.cells #[.int .i64 t, .slice ab zs.length capb] 108))) hu8 ht HG4.out h1 (fun i t' zs' hi => ?_) HO4.out).agree ⟨by omega, fun k hk hk' => (grown_put w4 w1.heap.size 0 _).block k hk' (fun e => by injection e with e; omega)⟩
        obtain ⟨bv', q1, q2, q3, q4⟩ := Hx.out i t' zs' hi
        exact ⟨bv', q1, q2, own_below q3 (below_alloc2 _), q4⟩
    case body1 =>
      rintro pre er args W0 W1 W3 hI0 hbl ⟨hne, t, ab, m, capb, rfl⟩ hg3 hs0
      have hg3 : (W1.alloc (.cells #[.int .i64 t, .slice ab m capb] 108)).grownBy W3 (some (wL.heap.size + 1)) := hg3
      have hC1 := (hI0.later hbl).later (below_alloc2 (.cells #[.int .i64 t, .slice ab m capb] 108))
      have hC3 := hC1.turn hg3 (by omega) (by omega)
      have d0 : W3.cell? ⟨w.heap.size + 1, 0, none⟩ = some (.slice none 0 0) := cell_row hC3.r1 0
      have d1 : W3.frozen? ⟨w.heap.size + 1, 0, none⟩ = false := frozen_row hC3.r1 0
      have d2 : W3.cell? ⟨w.heap.size + 1 + 1, 0, none⟩ = some (.int .i64 0) := cell_row hC3.r2 0
      have d3 : W3.frozen? ⟨w.heap.size + 1 + 1, 0, none⟩ = false := frozen_row hC3.r2 0
      have hneb : (er != 0) = true := by simpa using hne
      have HC3 := Lib.hid hC3
      clear hC1 hC3 hI0 hbl hne hg3
      gi_wp2
      have r1 : (W3.setCell ⟨w.heap.size + 1, 0, none⟩ (.slice none 0 0)).heap[w.heap.size + 1]? = some (.cells #[.slice none 0 0] 106 (0, 0)) := heap_put HC3.out.r1 0 _
      have r2 : ((W3.setCell ⟨w.heap.size + 1, 0, none⟩ (.slice none 0 0)).setCell ⟨w.heap.size + 1 + 1, 0, none⟩ (.int .i64 er)).heap[w.heap.size + 1 + 1]? = some (.cells #[.int .i64 er] 54 (0, 0)) :=
        heap_put (((grown_put W3 (w.heap.size + 1) 0 _).block (w.heap.size + 2) (Array.getElem?_eq_some_iff.1 HC3.out.r2).1 (fun e => by injection e with e; omega)).trans HC3.out.r2) 0 _
      have hlt1 := (Array.getElem?_eq_some_iff.1 HC3.out.r1).1
      refine ⟨⟨by simp, fun k o hk ho _ => ?_⟩, ⟨(HC3.out.below.grown (grown_put _ _ _ _) HC3.out.below.size (fun k e => by injection e with e; omega)).grown (grown_put _ _ _ _) (by have := HC3.out.below.size; simpa using this) (fun k e => by injection e with e; omega), ?_, r2, by omega⟩⟩
      · have hlt := (Array.getElem?_eq_some_iff.1 ho).1
        exact ((grown_put _ (w.heap.size + 1 + 1) 0 _).block k (by simpa using hlt) (fun e => by injection e with e; omega)).trans (((grown_put W3 (w.heap.size + 1) 0 _).block k hlt (fun e => by injection e with e; omega)).trans ho)
      · exact ((grown_put _ (w.heap.size + 1 + 1) 0 _).block (w.heap.size + 1) (by simpa using hlt1) (fun e => by injection e with e; omega)).trans r1
    case done =>
      rintro xs W hS hC hD
      obtain ⟨v, hv, ho⟩ := hC.out
      obtain ⟨av, capv, rfl⟩ := ho.slice
      have o0 : W.cell? ⟨w1.heap.size, 0, none⟩ = some (.slice av xs.length capv) := cell_row hv 0
      have d0 : W.cell? ⟨w.heap.size + 1, 0, none⟩ = some (.slice none 0 0) := cell_row hC.r1 0
      have d1 : W.frozen? ⟨w.heap.size + 1, 0, none⟩ = false := frozen_row hC.r1 0
      have d2 : W.cell? ⟨w.heap.size + 1 + 1, 0, none⟩ = some (.int .i64 0) := cell_row hC.r2 0
      have d3 : W.frozen? ⟨w.heap.size + 1 + 1, 0, none⟩ = false := frozen_row hC.r2 0
      have HC3 := Lib.hid hC
      have HS := Lib.hid hS
      have HO := Lib.hid ho
      have HD := Lib.hid hD
      clear hC hv ho hS hD
      gi_wp2
      have r1 : (W.setCell ⟨w.heap.size + 1, 0, none⟩ (.slice av xs.length capv)).heap[w.heap.size + 1]? = some (.cells #[.slice av xs.length capv] 106 (0, 0)) := heap_put HC3.out.r1 0 _
      have r2 : ((W.setCell ⟨w.heap.size + 1, 0, none⟩ (.slice av xs.length capv)).setCell ⟨w.heap.size + 1 + 1, 0, none⟩ (.int .i64 0)).heap[w.heap.size + 1 + 1]? = some (.cells #[.int .i64 0] 54 (0, 0)) :=
        heap_put (((grown_put W (w.heap.size + 1) 0 _).block (w.heap.size + 2) (Array.getElem?_eq_some_iff.1 HC3.out.r2).1 (fun e => by injection e with e; omega)).trans HC3.out.r2) 0 _
      have hlt1 := (Array.getElem?_eq_some_iff.1 HC3.out.r1).1
      have hlt2 := (Array.getElem?_eq_some_iff.1 HC3.out.r2).1
      have hltD := (Array.getElem?_eq_some_iff.1 HD.out).1
      have hK : ((W.setCell ⟨w.heap.size + 1, 0, none⟩ (.slice av xs.length capv)).setCell ⟨w.heap.size + 1 + 1, 0, none⟩ (.int .i64 0)).heap[wL.heap.size]? = some (.deferred (some [])) :=
        ((grown_put _ (w.heap.size + 1 + 1) 0 _).block _ (by simpa using hltD) (fun e => by injection e with e; omega)).trans (((grown_put W (w.heap.size + 1) 0 _).block _ hltD (fun e => by injection e with e; omega)).trans HD.out)
      refine ⟨by simp, .inl ⟨_, _, rfl, run_takeDeferred hK, ?_⟩⟩
      have k1 : (((W.setCell ⟨w.heap.size + 1, 0, none⟩ (.slice av xs.length capv)).setCell ⟨w.heap.size + 1 + 1, 0, none⟩ (.int .i64 0)).putObj wL.heap.size (.deferred none)).cell? ⟨w.heap.size + 1, 0, none⟩ = some (.slice av xs.length capv) :=
        cell_row ((World.putObj_heap_other (by omega)).trans (((grown_put _ (w.heap.size + 1 + 1) 0 _).block (w.heap.size + 1) (by simpa using hlt1) (fun e => by injection e with e; omega)).trans r1)) 0
      have k2 : (((W.setCell ⟨w.heap.size + 1, 0, none⟩ (.slice av xs.length capv)).setCell ⟨w.heap.size + 1 + 1, 0, none⟩ (.int .i64 0)).putObj wL.heap.size (.deferred none)).cell? ⟨w.heap.size + 1 + 1, 0, none⟩ = some (.int .i64 0) :=
        cell_row ((World.putObj_heap_other (by omega)).trans r2) 0
      refine ⟨.tuple #[.slice av xs.length capv, .int .i64 0], ?_, ?_⟩
      · simp [results, Tryz.f66, go_sem, k1, k2]
      · unfold GotCut
        rw [HS.out]
        have hag : Agree (w1.heap.size + 5) W (((W.setCell ⟨w.heap.size + 1, 0, none⟩ (.slice av xs.length capv)).setCell ⟨w.heap.size + 1 + 1, 0, none⟩ (.int .i64 0)).putObj wL.heap.size (.deferred none)) :=
          ⟨by simp, fun k hk hk' => (World.putObj_heap_other (by omega)).trans (((grown_put _ (w.heap.size + 1 + 1) 0 _).block k (by simpa using hk') (fun e => by injection e with e; omega)).trans ((grown_put W (w.heap.size + 1) 0 _).block k hk' (fun e => by injection e with e; omega)))⟩
        exact ⟨_, rfl, (HO.out.agree hag).low (by omega), ((HC3.out.below.grown (grown_put _ _ _ _) HC3.out.below.size (fun k e => by injection e with e; omega)).grown (grown_put _ _ _ _) (by simp; omega) (fun k e => by injection e with e; omega)).grown (grownBy_putObj' _ _ _) (by simp; omega) (fun k e => by injection e with e; omega)⟩
    case stop =>
      rintro er W ⟨hne, hS⟩ hX hD
      have HX := Lib.hid hX
      have HD := Lib.hid hD
      have HS := Lib.hid hS
      have hltD := (Array.getElem?_eq_some_iff.1 hD).1
      clear hX hD hS
      gi_wp2
      refine ⟨by simp, .inl ⟨_, _, rfl, run_takeDeferred HD.out, ?_⟩⟩
      have k1 : (W.putObj wL.heap.size (.deferred none)).cell? ⟨w.heap.size + 1, 0, none⟩ = some (.slice none 0 0) := cell_row ((World.putObj_heap_other (by omega)).trans HX.out.r1) 0
      have k2 : (W.putObj wL.heap.size (.deferred none)).cell? ⟨w.heap.size + 1 + 1, 0, none⟩ = some (.int .i64 er) := cell_row ((World.putObj_heap_other (by omega)).trans HX.out.r2) 0
      refine ⟨.tuple #[.slice none 0 0, .int .i64 er], ?_, ?_⟩
      · simp [results, Tryz.f66, go_sem, k1, k2]
      · unfold GotCut
        rw [HS.out]
        exact ⟨_, rfl, OutRows.nil _ _, HX.out.below.grown (grownBy_putObj' _ _ _) HX.out.below.size (fun k e => by injection e with e; omega)⟩

end Go.Proofs.YtcebcncpbedkmaaGreat
