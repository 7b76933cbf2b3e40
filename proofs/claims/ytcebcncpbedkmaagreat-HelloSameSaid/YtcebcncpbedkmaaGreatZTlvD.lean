/- The walk of tlv.One where a thing is there. Conditions: the argument reads as bytes, at most 10^9. -/
import Derived.Test.YtcebcncpbedkmaaGreatZTlvA
namespace Go.Proofs.YtcebcncpbedkmaaGreat
open Go.RowKit
set_option maxRecDepth 100000
set_option maxHeartbeats 4000000

/-- A new thing's block, after what only turned a cursor that was there. -/
theorem new_item {B : Nat × Nat} {w w' : World} {q : Nat} {st : St} (h : Cur B w q st) (hg : (w.alloc (.cells #[.int .i64 0, .slice none 0 0] 108)).drew.grownBy w' (some q)) :
    w'.cell? ⟨w.heap.size, 0, none⟩ = some (.int .i64 0) ∧ w'.cell? ⟨w.heap.size, 1, none⟩ = some (.slice none 0 0) ∧ w'.frozen? ⟨w.heap.size, 0, none⟩ = false ∧ w'.frozen? ⟨w.heap.size, 1, none⟩ = false ∧ w'.heap[w.heap.size]? = some (.cells #[.int .i64 0, .slice none 0 0] 108 (0, 0)) := by
  have h1 : w'.heap[w.heap.size]? = some (.cells #[.int .i64 0, .slice none 0 0] 108 (0, 0)) :=
    (hg.block w.heap.size (by show _ < (w.alloc _).heap.size; simp) (fun e => by injection e with e; have := h.lt; omega)).trans (heap_alloc_new w _)
  exact ⟨cell_row h1 0, cell_row h1 1, frozen_row h1 0, frozen_row h1 1, h1⟩

/-- What stands once a thing's bytes have been taken: q the cursor, X the thing's block. -/
structure RestD (w : World) (s : Sh) (B : Nat × Nat) (q : Nat) (st : St) (w' : World) (X : Nat) (x : Int) (bv : Value) (m : Nat) (zs : List Int) : Prop where
  two : Two0 w s w'
  cur : Cur B w' q st
  item : w'.heap[X]? = some (.cells #[.int .i64 x, bv] 108 (0, 0))
  far : B.2 ≤ X
  own : ∃ L, w.heap.size + 2 ≤ L ∧ B.2 ≤ L ∧ w'.ownsRow L 5 1 bv m (zs.map (Value.int .u8))

theorem restA {w w6 : World} {s : Sh} {B : Nat × Nat} {q b0 : Nat} {st : St} {bv : Value} {m : Nat} {zs : List Int} (hs : b0 ≤ w6.heap.size) (hB : B.2 ≤ b0) (h : Two0 w s w6) (hc : Cur B w6 q st) (ho : w6.ownsRow b0 5 1 bv m (zs.map (Value.int .u8))) (hb : w.heap.size + 2 ≤ b0) (x : Int) :
    RestD w s B q st (w6.alloc (.cells #[.int .i64 x, bv] 108)) w6.heap.size x bv m zs where
  two := h.step (below_alloc2 _) h.size
  cur := hc.below (below_alloc2 _)
  item := heap_alloc_new _ _
  far := Nat.le_trans hB hs
  own := ⟨b0, hb, hB, own_below ho (below_alloc2 _)⟩

theorem restB {w w6 : World} {s : Sh} {B : Nat × Nat} {q b0 X : Nat} {st : St} {bv : Value} {m : Nat} {zs : List Int} (hX : w.heap.size + 2 ≤ X) (hB : B.2 ≤ X) (h : Two0 w s w6) (hc : Cur B w6 q st) (ho : w6.ownsRow b0 5 1 bv m (zs.map (Value.int .u8))) (hi : w6.heap[X]? = some (.cells #[.int .i64 0, .slice none 0 0] 108 (0, 0))) (hb : X < b0) (x : Int) :
    RestD w s B q st ((w6.setCell ⟨X, 0, none⟩ (.int .i64 x)).setCell ⟨X, 1, none⟩ bv) X x bv m zs where
  two := h.row (rows2 hi (.int .i64 x) bv).2 hX
  cur := hc.grown (rows2 hi (.int .i64 x) bv).2 (fun k e => by injection e with e; subst e; exact .inr hB)
  item := (rows2 hi (.int .i64 x) bv).1
  far := hB
  own := ⟨b0, by omega, by omega, own_other ho (rows2 hi (.int .i64 x) bv).2 (fun k e => by injection e with e; subst e; exact hb)⟩

theorem RestD.below {w w1 w2 : World} {s : Sh} {B : Nat × Nat} {q X : Nat} {st : St} {x : Int} {bv : Value} {m : Nat} {zs : List Int} (h : RestD w s B q st w1 X x bv m zs) (hb : Below w1.heap.size w1 w2) : RestD w s B q st w2 X x bv m zs where
  two := h.two.step hb h.two.size
  cur := h.cur.below hb
  item := (hb.block X (Array.getElem?_eq_some_iff.1 h.item).1).trans h.item
  far := h.far
  own := by obtain ⟨L, h1, h2, h3⟩ := h.own; exact ⟨L, h1, h2, own_below h3 hb⟩
theorem RestD.row {w w1 w2 : World} {s : Sh} {B : Nat × Nat} {q X : Nat} {st st' : St} {x : Int} {bv : Value} {m : Nat} {zs : List Int} (h : RestD w s B q st w1 X x bv m zs) (hc : Cur B w2 q st') (hg : w1.grownBy w2 (some q)) (hq : w.heap.size + 2 ≤ q) : RestD w s B q st' w2 X x bv m zs where
  two := h.two.row hg hq
  cur := hc
  item := (hg.block X (Array.getElem?_eq_some_iff.1 h.item).1 (fun e => by injection e with e; have := h.far; have := hc.upto; omega)).trans h.item
  far := h.far
  own := by obtain ⟨L, h1, h2, h3⟩ := h.own; exact ⟨L, h1, h2, own_other h3 hg (fun k e => by injection e with e; subst e; have := hc.upto; omega)⟩
theorem RestD.cells {w w' : World} {s : Sh} {B : Nat × Nat} {q X : Nat} {st : St} {x : Int} {bv : Value} {m : Nat} {zs : List Int} (h : RestD w s B q st w' X x bv m zs) : w'.cell? ⟨X, 0, none⟩ = some (.int .i64 x) ∧ w'.cell? ⟨X, 1, none⟩ = some bv := ⟨cell_row h.item 0, cell_row h.item 1⟩
/-- The result is stored, and handed back. -/
theorem RestD.done {w w' : World} {s : Sh} {B : Nat × Nat} {q X : Nat} {st : St} {x : Int} {bv : Value} {m : Nat} {zs bs : List Int} {n : Nat} (h : RestD w s B q st w' X x bv m zs) (ho : s.one bs = ((x, zs), n, 0)) (hu : U8 zs) (hm : zs.length = m) :
    GotOne s bs w (.returned (.tuple #[.agg #[.int .i64 x, bv], .int .i64 n, .int .i64 0])) ((w'.setCell ⟨w.heap.size + 1, 0, none⟩ (.int .i64 x)).setCell ⟨w.heap.size + 1, 1, none⟩ bv).drew := by
  obtain ⟨L, h1, h2, h3⟩ := h.own
  have h4 := rows2 h.two.res (.int .i64 x) bv
  unfold GotOne
  rw [ho]
  refine ⟨bv, rfl, ?_, hu, below_drewN (below_row h.two.below h.two.below.size h4.2 (by omega)) 1⟩
  subst hm
  have h5 := own_other h3 h4.2 (fun k e => by injection e with e; omega)
  exact own_base h5 (by omega)

theorem one_there {s : Sh} {v : Value} {bs : List Int} {w : World} (hm : s.may = true) (h : Ints .u8 w v bs) (h4 : 4 ≤ bs.length) (hl : bs.length ≤ 1000000000) (hf : s.fits (told bs) = true) (hz : told bs + s.zeros (told bs) ≤ bs.length) : Calls Tryz.prog 113 #[s.val, v] w (GotOne s bs w) := by
  have HM := sh_may s
  rw [hm] at HM
  have HM := Lib.hid HM
  have hu := h.u8
  have hnl := told_lt hu
  have hne := told_eq hu
  have hv := valL_bd (b := bs.take 2) (fun z hz => hu z (List.mem_of_mem_take hz))
  rw [show (bs.take 2).length = 2 by simp; omega, show (256 : Int) ^ 2 = 65536 by decide] at hv
  have hr : (St.fresh bs s.bad s.odd).row [2, 2] = ({ St.fresh bs s.bad s.odd with pos := 4 }, [valL (bs.take 2), (told bs : Int)]) := by
    rw [row_fine rfl (by rw [show (St.fresh bs s.bad s.odd).rest = bs from rfl, s22_fine h4]), show (St.fresh bs s.bad s.odd).rest = bs from rfl, s22_fine h4, ← hne]
    rfl
  have hbad : s.bad ≠ 0 := (Sh.may_iff.1 hm).2.2.2.2.1
  have hn4 : 4 ≤ told bs := by
    have := hf
    have := Sh.may_iff.1 hm
    simp only [Sh.fits, Bool.and_eq_true, decide_eq_true_eq] at hf
    omega
  have HT := sh_fits hm (told bs) (by omega)
  rw [hf] at HT
  have HT := Lib.hid HT
  have HZ := Lib.hid (sh_zeros hm (told bs) (by omega))
  have hzl := Sh.zeros_lt hm (told bs)
  have HL : Hid (bs.length ≤ 1000000000) := hl
  have HI := Lib.hid h
  obtain ⟨av, capv, bv, ov, rfl, -⟩ := h.open
  have hodd : s.odd ≠ 0 := (Sh.may_iff.1 hm).2.2.2.2.2
  have HBd := Lib.hid hbad
  have HBs : Hid ((⟨bs, 4, s.bad, s.odd, 0⟩ : St).bytes ((told bs : Int) - 4) = (⟨bs, told bs, s.bad, s.odd, 0⟩, (bs.take (told bs)).drop 4)) := by
    show _ = _
    rw [show ((told bs : Int) - 4) = ((told bs - 4 : Nat) : Int) by omega, bytes_fine rfl (by simp [St.left]; omega)]
    simp only [St.rest, List.drop_take]
    rw [show 4 + (told bs - 4) = told bs by omega]
  have hlb : ((bs.take (told bs)).drop 4).length = told bs - 4 := by simp; omega
  have HO : Hid (s.one bs = if ((bs.drop (told bs)).take (s.zeros (told bs))).all (· == 0) = false then ((0, []), 0, s.odd) else ((valL (bs.take 2), (bs.take (told bs)).drop 4), told bs + s.zeros (told bs), 0)) := by
    show _ = _
    rw [Sh.one, if_neg (by simp [hm]), if_neg (by omega), if_neg (by rw [hf]; simp; omega)]
  clear h hm h4 hf hne hu hbad
  generalize s.zeros (told bs) = z at hz hzl HZ HO
  generalize told bs = n at hnl hr HT HZ hz hn4 HO HBs hlb
  generalize valL (bs.take 2) = x at hv hr HO
  have HR := Lib.hid hr
  have HU : Hid (∀ z ∈ [x, (n : Int)], (Lit.int .u64 z).wf = true) := U64.wf (by intro z hz; simp at hz; omega)
  have hgt : decide ((bs.length : Int) < (n : Int) + (z : Int)) = false := decide_eq_false (by omega)
  clear hr
  simp only [Sh.val]
  go_enter Tryz.func113, Tryz.ntmps113
  go_wp2_with (first
    | (go_at_call 93; (with_reducible refine (HM.out _).mono ?_); rintro e w1 ⟨rfl, hb⟩; have H1 := Lib.hid ((Two0.start w s).step hb (by simp)); obtain ⟨c0, c1, c2, c3, c4, d0, d1, f0, f1⟩ := H1.out.cells; have HI1 := Lib.hid (HI.out.below H1.out.below); have HS1 := Lib.hid H1.out.size; clear hb)
    | (go_at_call 120; (with_reducible refine (cur_new HI1.out HL.out s.bad s.odd).mono ?_); rintro e w2 ⟨q, rfl, hq, hb⟩; have HQ := Lib.hid hq; have HF := Lib.hid (Nat.le_trans HS1.out hq.from); have H2 := Lib.hid (H1.out.step hb HS1.out); have HI2 := Lib.hid (HI1.out.below hb); clear hq hb c0 c1 c2 c3 c4 d0 d1 f0 f1; obtain ⟨c0, c1, c2, c3, c4, d0, d1, f0, f1⟩ := H2.out.cells)
    | (go_at_call 121; have hr := cur_row (HQ.out.below (below_alloc2 (.cells #[.int .i64 2, .int .i64 2] 3))) (.slice (some ⟨w2.heap.size, 0, none⟩) 2 2) [2, 2] (Ints.lit .i64 w2 3 [2, 2] _ rfl (by decide) (by decide)); rw [HR.out] at hr; (with_reducible refine hr.mono ?_); clear hr; rintro e w3 ⟨va, rfl, ho, hc, hg⟩; obtain ⟨aa, capa, bx, ox, rfl, -, -, -, hax, hcx⟩ := (Ints.of_own ho HU.out).open; obtain rfl := hax (by simp); have HX3 := Lib.hid (Ints.of_own ho HU.out); have HQB : Hid (q ≠ bx) := (by have h1 := (ho.lt bx rfl).1; have h2 := HQ.out.upto; show _ ≠ _; simp at h1; omega); have HBX : Hid (w2.heap.size < bx) := (by have h1 := (ho.lt bx rfl).1; show _ < _; simp at h1; omega); have H3 := Lib.hid ((H2.out.step (below_alloc2 _) H2.out.size).row hg HF.out); have HC := Lib.hid hc; clear ho hc hg hax hcx c0 c1 c2 c3 c4 d0 d1 f0 f1; obtain ⟨c0, c1, c2, c3, c4, d0, d1, f0, f1⟩ := H3.out.cells; have x1 := xs_0 HX3.out; have x2 := xs_1 HX3.out)
    | (go_at_call 94; (with_reducible refine (HT.out _).mono ?_); rintro e w4 ⟨rfl, hb⟩; have H4 := Lib.hid (H3.out.step hb H3.out.size); have HC4 := Lib.hid (HC.out.below hb); have HX4 := Lib.hid (HX3.out.below hb); clear hb x1 x2 c0 c1 c2 c3 c4 d0 d1 f0 f1; obtain ⟨c0, c1, c2, c3, c4, d0, d1, f0, f1⟩ := H4.out.cells; have x1 := xs_0 HX4.out; have x2 := xs_1 HX4.out)
    | (go_at_call 96; (with_reducible refine (HZ.out _).mono ?_); rintro e w5 ⟨rfl, hb⟩; have H5 := Lib.hid (H4.out.step hb H4.out.size); have HC5 := Lib.hid (HC4.out.below hb); have HX5 := Lib.hid (HX4.out.below hb); clear hb x1 x2 c0 c1 c2 c3 c4 d0 d1 f0 f1; obtain ⟨c0, c1, c2, c3, c4, d0, d1, f0, f1⟩ := H5.out.cells; have x1 := xs_0 HX5.out; have x2 := xs_1 HX5.out)
    | fail)
  have HBy : Hid (Calls Tryz.prog 123 #[.pointer (some ⟨q, 0, none⟩), .int .i64 (IntKind.i64.wrap ((n : Int) - 4))] w5.drew (GotBytes (w1.heap.size, w2.heap.size) w5.drew q ⟨bs, n, s.bad, s.odd, 0⟩ ((bs.take n).drop 4))) := by
    rw [wrap_small (show -9223372036854775808 ≤ (n : Int) - 4 by omega) (by omega)]
    have := cur_bytes (HC5.out.drew 1) HBd.out ((n : Int) - 4) (wf_i64 (by omega) (by omega))
    rw [show ({ St.fresh bs s.bad s.odd with pos := 4 } : St) = ⟨bs, 4, s.bad, s.odd, 0⟩ from rfl, HBs.out] at this
    exact this
  have HBz : Hid (Calls Tryz.prog 123 #[.pointer (some ⟨q, 0, none⟩), .int .i64 (IntKind.i64.wrap ((n : Int) - 4))] (w5.alloc (.cells #[.int .i64 0, .slice none 0 0] 108)).drew (GotBytes (w1.heap.size, w2.heap.size) (w5.alloc (.cells #[.int .i64 0, .slice none 0 0] 108)).drew q ⟨bs, n, s.bad, s.odd, 0⟩ ((bs.take n).drop 4))) := by
    rw [wrap_small (show -9223372036854775808 ≤ (n : Int) - 4 by omega) (by omega)]
    have := cur_bytes ((HC5.out.below (below_alloc2 (.cells #[.int .i64 0, .slice none 0 0] 108))).drew 1) HBd.out ((n : Int) - 4) (wf_i64 (by omega) (by omega))
    rw [show ({ St.fresh bs s.bad s.odd with pos := 4 } : St) = ⟨bs, 4, s.bad, s.odd, 0⟩ from rfl, HBs.out] at this
    exact this
  have HWx : Hid (IntKind.wrap .i64 x = x) := wrap_small (by omega) (by omega)
  have HS5 : Hid (w.heap.size + 2 ≤ w5.heap.size) := H5.out.size
  have z1 := xs_0 (HX5.out.alloc (.cells #[.int .i64 0, .slice none 0 0] 108))
  go_region_law (first
    | (go_simp; go_at_call 123; (with_reducible refine HBy.out.mono ?_); rintro e w6 ⟨vb, rfl, ho, hub, hc, hg⟩; have HX6 := Lib.hid (Ints.grown (w := w5.drew) (HX5.out.below (below_drewN (Below.refl _ _) 1)) hg (fun b e => by injection e with e; subst e; exact fun e' => HQB.out (by injection e' with e'; exact e'.symm))); have y1 := xs_0 HX6.out; have y2 := xs_0 (HX6.out.alloc (.cells #[.int .i64 0, .slice none 0 0] 108)); rw [hlb] at ho; obtain ⟨ab, capb, rfl⟩ := own_slice ho; have HO6 := Lib.hid ho; have HU6 := Lib.hid hub; have HC6 := Lib.hid hc; have HS56 := Lib.hid hg.size; have H6 := Lib.hid ((H5.out.step (below_drewN (Below.refl _ _) 1) H5.out.size).row hg HF.out); clear ho hub hc hg)
    | (go_simp; go_at_call 123; (with_reducible refine HBz.out.mono ?_); rintro e w6 ⟨vb, rfl, ho, hub, hc, hg⟩; have HX6 := Lib.hid (Ints.grown (w := (w5.alloc (.cells #[.int .i64 0, .slice none 0 0] 108)).drew) (HX5.out.below (below_drewN (below_alloc2 _) 1)) hg (fun b e => by injection e with e; subst e; exact fun e' => HQB.out (by injection e' with e'; exact e'.symm))); have y1 := xs_0 HX6.out; have y2 := xs_0 (HX6.out.alloc (.cells #[.int .i64 0, .slice none 0 0] 108)); rw [hlb] at ho; obtain ⟨ab, capb, rfl⟩ := own_slice ho; have HO6 := Lib.hid ho; have HU6 := Lib.hid hub; have HC6 := Lib.hid hc; have HS56 := Lib.hid hg.size; have H6 := Lib.hid ((H5.out.step (below_drewN (below_alloc2 _) 1) H5.out.size).row hg HF.out); have hn6 := new_item HC5.out hg; obtain ⟨e0, e1, g0, g1, hn6⟩ := hn6; have HN6 := Lib.hid hn6; clear hn6 ho hub hc hg))
  all_goals rw [HWx.out]
  all_goals
    first
    | (have R := Lib.hid (restA (by have := HS56.out; exact this) (by have h1 := World.block_lt_of_cell? _ _ x1; have h2 := HBX.out; exact Nat.le_of_lt (Nat.lt_trans h2 h1)) H6.out HC6.out HO6.out HS5.out x); generalize w6.alloc (.cells #[.int .i64 x, .slice ab (n - 4) capb] 108) = w7 at R ⊢)
    | (have R := Lib.hid (restB (by have := HS5.out; have := HF.out; omega) (by have h1 := World.block_lt_of_cell? _ _ x1; have h2 := HBX.out; exact Nat.le_of_lt (Nat.lt_trans h2 h1)) H6.out HC6.out HO6.out HN6.out (by simp) x); generalize (w6.setCell ⟨w5.heap.size, 0, none⟩ (.int .i64 x)).setCell ⟨w5.heap.size, 1, none⟩ (.slice ab (n - 4) capb) = w7 at R ⊢)
  all_goals
    clear x1 x2 y1 y2 z1 c0 c1 c2 c3 c4 d0 d1 f0 f1
    obtain ⟨c0, c1, c2, c3, c4, d0, d1, f0, f1⟩ := R.out.two.cells
    obtain ⟨i0, i1⟩ := R.out.cells
    by_cases hz0 : z = 0
    · subst hz0
      have HOk : Hid (s.one bs = ((x, (bs.take n).drop 4), n, 0)) := by rw [Hid, HO.out]; simp
      go_wp2_with (first
        | (go_at_call 96; (with_reducible refine (HZ.out _).mono ?_); rintro e w8 ⟨rfl, hb⟩; have R8 := Lib.hid (R.out.below hb); clear hb c0 c1 c2 c3 c4 d0 d1 f0 f1 i0 i1; obtain ⟨c0, c1, c2, c3, c4, d0, d1, f0, f1⟩ := R8.out.two.cells; obtain ⟨i0, i1⟩ := R8.out.cells)
        | (go_at_call 122; (with_reducible refine (cur_err R8.out.cur).mono ?_); rintro e w9 ⟨rfl, rfl⟩)
        | fail)
      go_region_with (go_at_call 124; (with_reducible refine (cur_at (w := w8.drew) R8.out.cur).mono ?_); rintro e w10 ⟨rfl, rfl⟩)
      all_goals
        go_wp2
        refine bodyPost_ret (res_row_tmp_tmp rfl _ (World.drew _) (w.heap.size + 1) _ _ _ _ rfl (R8.out.two.set (.int .i64 x) (.slice ab (n - 4) capb)).1 Tryz.underlying108 rfl (by kernel_rfl)) rfl ?_
        exact R8.out.done HOk.out HU6.out hlb
    · have HZb : Hid ((⟨bs, n, s.bad, s.odd, 0⟩ : St).row [-(z : Int)] = if ((bs.drop n).take z).all (· == 0) then (⟨bs, n + z, s.bad, s.odd, 0⟩, []) else (⟨bs, n, s.bad, s.odd, s.odd⟩, [])) := by
        show _ = _
        rw [sz_row rfl (by omega) (by omega) (by simp [St.rest]; omega)]
        rfl
      have HOd := Lib.hid hodd
      cases hall : ((bs.drop n).take z).all (· == 0) with
      | true =>
        have HRz : Hid ((⟨bs, n, s.bad, s.odd, 0⟩ : St).row [-(z : Int)] = (⟨bs, n + z, s.bad, s.odd, 0⟩, [])) := by rw [Hid, HZb.out, if_pos hall]
        have HOk : Hid (s.one bs = ((x, (bs.take n).drop 4), n + z, 0)) := by rw [Hid, HO.out, if_neg (by simp [hall])]
        clear hall
        go_wp2_with (first
          | (go_at_call 96; (with_reducible refine (HZ.out _).mono ?_); rintro e w8 ⟨rfl, hb⟩; have R8 := Lib.hid (R.out.below hb); clear hb c0 c1 c2 c3 c4 d0 d1 f0 f1 i0 i1; obtain ⟨c0, c1, c2, c3, c4, d0, d1, f0, f1⟩ := R8.out.two.cells; obtain ⟨i0, i1⟩ := R8.out.cells)
          | (go_at_call 121; have hr := cur_row (R8.out.cur.below (below_alloc2 (.cells #[.int .i64 (-(z : Int))] 3))) (.slice (some ⟨w8.heap.size, 0, none⟩) 1 1) [-(z : Int)] (Ints.lit .i64 w8 3 [-(z : Int)] _ rfl (by simp) (by intro u hu; simp at hu; subst hu; exact wf_i64 (by omega) (by omega))); rw [HRz.out] at hr; (with_reducible refine hr.mono ?_); clear hr; rintro e w9 ⟨vz, rfl, ho, hc, hg⟩; obtain ⟨az, capz, rfl⟩ := own_slice ho; have R9 := Lib.hid ((R8.out.below (below_alloc2 _)).row hc hg HF.out); clear ho hc hg c0 c1 c2 c3 c4 d0 d1 f0 f1 i0 i1; obtain ⟨c0, c1, c2, c3, c4, d0, d1, f0, f1⟩ := R9.out.two.cells; obtain ⟨i0, i1⟩ := R9.out.cells)
          | (go_at_call 122; (with_reducible refine (cur_err R9.out.cur).mono ?_); rintro e w9 ⟨rfl, rfl⟩)
          | fail)
        go_region_with (go_at_call 124; (with_reducible refine (cur_at (w := w9.drew) R9.out.cur).mono ?_); rintro e w10 ⟨rfl, rfl⟩)
        all_goals
          go_wp2
          refine bodyPost_ret (res_row_tmp_tmp rfl _ (World.drew _) (w.heap.size + 1) _ _ _ _ rfl (R9.out.two.set (.int .i64 x) (.slice ab (n - 4) capb)).1 Tryz.underlying108 rfl (by kernel_rfl)) rfl ?_
          exact R9.out.done HOk.out HU6.out hlb
      | false =>
        have HRz : Hid ((⟨bs, n, s.bad, s.odd, 0⟩ : St).row [-(z : Int)] = (⟨bs, n, s.bad, s.odd, s.odd⟩, [])) := by rw [Hid, HZb.out, if_neg (by simp [hall])]
        have HOk : Hid (s.one bs = ((0, []), 0, s.odd)) := by rw [Hid, HO.out, if_pos hall]
        clear hall
        have hne : (s.odd != 0) = true := by simpa using HOd.out
        go_wp2_with (first
          | (go_at_call 96; (with_reducible refine (HZ.out _).mono ?_); rintro e w8 ⟨rfl, hb⟩; have R8 := Lib.hid (R.out.below hb); clear hb c0 c1 c2 c3 c4 d0 d1 f0 f1 i0 i1; obtain ⟨c0, c1, c2, c3, c4, d0, d1, f0, f1⟩ := R8.out.two.cells; obtain ⟨i0, i1⟩ := R8.out.cells)
          | (go_at_call 121; have hr := cur_row (R8.out.cur.below (below_alloc2 (.cells #[.int .i64 (-(z : Int))] 3))) (.slice (some ⟨w8.heap.size, 0, none⟩) 1 1) [-(z : Int)] (Ints.lit .i64 w8 3 [-(z : Int)] _ rfl (by simp) (by intro u hu; simp at hu; subst hu; exact wf_i64 (by omega) (by omega))); rw [HRz.out] at hr; (with_reducible refine hr.mono ?_); clear hr; rintro e w9 ⟨vz, rfl, ho, hc, hg⟩; obtain ⟨az, capz, rfl⟩ := own_slice ho; have R9 := Lib.hid ((R8.out.below (below_alloc2 _)).row hc hg HF.out); clear ho hc hg c0 c1 c2 c3 c4 d0 d1 f0 f1 i0 i1; obtain ⟨c0, c1, c2, c3, c4, d0, d1, f0, f1⟩ := R9.out.two.cells; obtain ⟨i0, i1⟩ := R9.out.cells)
          | (go_at_call 122; (with_reducible refine (cur_err R9.out.cur).mono ?_); rintro e w9 ⟨rfl, rfl⟩)
          | fail)
        obtain ⟨hh, hb⟩ := R9.out.two.set (.int .i64 0) (.slice none 0 0)
        refine bodyPost_ret (res_row_tmp_tmp rfl _ _ (w.heap.size + 1) _ _ _ _ rfl hh Tryz.underlying108 rfl (by kernel_rfl)) rfl ?_
        exact GotOne.none HOk.out hb

end Go.Proofs.YtcebcncpbedkmaaGreat
