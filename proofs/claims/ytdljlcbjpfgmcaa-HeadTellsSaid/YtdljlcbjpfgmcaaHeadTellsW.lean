/- The walk of the law 'HeadTells': it returns true. Conditions: the arguments read as a head, a list of bytes and an int. -/
import Derived.Test.YtdljlcbjpfgmcaaHeadD
import Derived.Test.YtdljlcbjpfgmcaaSure06
import Derived.Deep.RegionHeld
namespace Go.Proofs.Ytdljlcbjpfgmcaa
open Go.RowKit

/-- The cells that the last statement reads, and that nothing older has turned. -/
abbrev Held6 (w9 w' : World) (p1 p2 p3 p4 : Nat) (v t n x v' t' n' x' : Int) : Prop :=
  (w'.cell? ⟨p1, 0, none⟩ = some (.int .i64 v) ∧ w'.cell? ⟨p1, 1, none⟩ = some (.int .i64 t) ∧ w'.cell? ⟨p1, 2, none⟩ = some (.int .i64 n) ∧ w'.cell? ⟨p1, 3, none⟩ = some (.int .u32 x)) ∧
  (w'.cell? ⟨p2, 0, none⟩ = some (.int .i64 v) ∧ w'.cell? ⟨p2, 1, none⟩ = some (.int .i64 t) ∧ w'.cell? ⟨p2, 2, none⟩ = some (.int .i64 n) ∧ w'.cell? ⟨p2, 3, none⟩ = some (.int .u32 x)) ∧
  (w'.cell? ⟨p3, 0, none⟩ = some (.int .i64 v') ∧ w'.cell? ⟨p3, 1, none⟩ = some (.int .i64 t') ∧ w'.cell? ⟨p3, 2, none⟩ = some (.int .i64 n') ∧ w'.cell? ⟨p3, 3, none⟩ = some (.int .u32 x')) ∧
  (w'.cell? ⟨p4, 0, none⟩ = some (.int .i64 v') ∧ w'.cell? ⟨p4, 1, none⟩ = some (.int .i64 t') ∧ w'.cell? ⟨p4, 2, none⟩ = some (.int .i64 n') ∧ w'.cell? ⟨p4, 3, none⟩ = some (.int .u32 x')) ∧
  Below w9.heap.size w9 w'

theorem below_cell {B : Nat} {w w' : World} {p i : Nat} {v : Value} (h : Below B w w') (hB : w.heap.size = B) (hc : w.cell? ⟨p, i, none⟩ = some v) : w'.cell? ⟨p, i, none⟩ = some v := by
  subst hB
  exact (h.cell (p := ⟨p, i, none⟩) (World.block_lt_of_cell? _ _ hc)).trans hc

theorem Held6.next {w9 w w' : World} {p1 p2 p3 p4 : Nat} {v t n x v' t' n' x' : Int} (h : Held6 w9 w p1 p2 p3 p4 v t n x v' t' n' x') (hb : Below w.heap.size w w') : Held6 w9 w' p1 p2 p3 p4 v t n x v' t' n' x' := by
  obtain ⟨⟨a1, a2, a3, a4⟩, ⟨b1, b2, b3, b4⟩, ⟨c1, c2, c3, c4⟩, ⟨d1, d2, d3, d4⟩, hB⟩ := h
  have f : ∀ {p i : Nat} {u : Value}, w.cell? ⟨p, i, none⟩ = some u → w'.cell? ⟨p, i, none⟩ = some u := fun hc => below_cell hb rfl hc
  exact ⟨⟨f a1, f a2, f a3, f a4⟩, ⟨f b1, f b2, f b3, f b4⟩, ⟨f c1, f c2, f c3, f c4⟩, ⟨f d1, f d2, f d3, f d4⟩, hB.trans (hb.mono hB.size)⟩

theorem Held6.bel {w9 w : World} {p1 p2 p3 p4 : Nat} {v t n x v' t' n' x' : Int} (h : Held6 w9 w p1 p2 p3 p4 v t n x v' t' n' x') : Below w9.heap.size w9 w := h.2.2.2.2

theorem put6_both (h : Hd) : (putH h).2 = 0 ∨ ((putH h).2 = 10001 ∧ (putH h).1 = []) := by unfold putH; split <;> simp

set_option maxRecDepth 100000 in
set_option maxHeartbeats 4000000 in
theorem walk_HeadTells (v1 : Value) (h : Hd) (v2 : Value) (bs : List Int) (t0 : Int) (w : World) (h1 : v1 = h.val ∧ h.ok) (h2 : Ints .u8 w v2 bs) (_h3 : (Lit.int .i64 t0).wf = true) :
    Calls Try.prog 14 #[v1, v2, .int .i64 t0] w fun e w' => e = .returned (.bool true) ∧ Below w.heap.size w w' := by
  obtain ⟨rfl, ho⟩ := h1
  have hle := h2.le
  have H2 := Lib.hid h2
  obtain ⟨a2, cap2, b2, off2, rfl, -⟩ := h2.open
  clear h2
  by_cases g1 : 1000 < bs.length
  · go_enter Try.func14, Try.ntmps14
    go_wp2_with (go_at_call 32; (with_reducible refine (sure06 _).mono ?_); rintro e w' ⟨rfl, hb⟩)
    go_ret
    exact ⟨rfl, below1 hb⟩
  obtain ⟨v, t, n, x⟩ := h
  have HPut := fun w => head_put ⟨v, t, n, x⟩ ho w
  have HRef := fun w => ref_put6 ⟨v, t, n, x⟩ ho w
  have hU : U8 (putH ⟨v, t, n, x⟩).1 := by
    unfold putH; split
    · intro z hz; simp at hz
    · simp only
      exact U8.append (U8.append (U8.append (be_u8 _ _) (be_u8 _ _)) (be_u8 _ _)) (be_u8 _ _)
  obtain ⟨l, er, hpr⟩ : ∃ l er, putH ⟨v, t, n, x⟩ = (l, er) := ⟨_, _, rfl⟩
  rw [hpr] at HPut HRef hU
  have HPut : ∀ w, Hid (Calls Try.prog 55 #[.agg #[.int .i64 v, .int .i64 t, .int .i64 n, .int .u32 x]] w (GotDone w l er)) := HPut
  have HRef : ∀ w, Hid (Calls Try.prog 56 #[.agg #[.int .i64 v, .int .i64 t, .int .i64 n, .int .u32 x]] w (fun e w' => ∃ v, e = .returned (.tuple #[v, .int .i64 er]) ∧ Ints .u8 w' v l ∧ Below w.heap.size w w')) := HRef
  have HU := Lib.hid hU
  obtain ⟨⟨v', t', n', x'⟩, er', hgt⟩ : ∃ g er', hdOf bs = (g, er') := ⟨_, _, rfl⟩
  have HGet : ∀ w va, Ints .u8 w va bs → Hid (Calls Try.prog 57 #[va] w fun e w' => e = .returned (.tuple #[.agg #[.int .i64 v', .int .i64 t', .int .i64 n', .int .u32 x'], .int .i64 er']) ∧ Below w.heap.size w w') := fun w va hi => by
    have := head_get hi (by omega)
    rw [hgt] at this
    exact this
  have HGet6 : ∀ w va, Ints .u8 w va bs → Hid (Calls Try.prog 58 #[va] w fun e w' => e = .returned (.tuple #[.agg #[.int .i64 v', .int .i64 t', .int .i64 n', .int .u32 x'], .int .i64 er']) ∧ Below w.heap.size w w') := fun w va hi => by
    have := ref_get6 hi
    rw [hgt] at this
    exact this
  have HA := fun w => Lib.hid (head_answer t0 w)
  have HA6 := fun w => Lib.hid (ref_answer t0 w)
  have HL := fun w => Lib.hid (head_least t0 w)
  have HL6 := fun w => Lib.hid (ref_least t0 w)
  have HC := fun w => Lib.hid (head_check v t n x w)
  have HC6 := fun w => Lib.hid (ref_check v t n x w)
  generalize (answerS t0).1 = an at HA HA6
  generalize (answerS t0).2 = ok at HA HA6
  generalize leastS t0 = le at HL HL6
  generalize checkS v t n = ch at HC HC6
  have HBx : Hid (Below w.heap.size w ((w.alloc (.cells #[.int .i64 v, .int .i64 t, .int .i64 n, .int .u32 x] 48)).alloc (.cells #[.int .i64 v, .int .i64 t, .int .i64 n, .int .u32 x] 80))) := ((Below.refl _ _).alloc (Nat.le_refl _) _).alloc (by simp) _
  have HH0 : Hid (((w.alloc (.cells #[.int .i64 v, .int .i64 t, .int .i64 n, .int .u32 x] 48)).alloc (.cells #[.int .i64 v, .int .i64 t, .int .i64 n, .int .u32 x] 80)).heap[w.heap.size]? = some (.cells #[.int .i64 v, .int .i64 t, .int .i64 n, .int .u32 x] 48 (0, 0))) := ((below_alloc2 _).block _ (by simp)).trans (heap_alloc_new _ _)
  have HH1 : Hid (((w.alloc (.cells #[.int .i64 v, .int .i64 t, .int .i64 n, .int .u32 x] 48)).alloc (.cells #[.int .i64 v, .int .i64 t, .int .i64 n, .int .u32 x] 80)).heap[w.heap.size + 1]? = some (.cells #[.int .i64 v, .int .i64 t, .int .i64 n, .int .u32 x] 80 (0, 0))) := by
    have := heap_alloc_new (w.alloc (.cells #[.int .i64 v, .int .i64 t, .int .i64 n, .int .u32 x] 48)) (.cells #[.int .i64 v, .int .i64 t, .int .i64 n, .int .u32 x] 80)
    rw [World.size_alloc] at this
    exact this
  clear ho hpr hU hgt
  show Calls Try.prog 14 #[.agg #[.int .i64 v, .int .i64 t, .int .i64 n, .int .u32 x], _, _] w _
  go_enter Try.func14, Try.ntmps14
  go_wp2_with fail
  (with_reducible refine (HPut _).out.mono ?_)
  rintro e w2 ⟨va, rfl, hoa, hb⟩
  have HX2 := Lib.hid (Ints.of_own hoa HU.out.wf)
  obtain ⟨al, capl, rfl⟩ := own_slice hoa
  have HB2 := Lib.hid hb
  clear hoa hb
  have HH : w2.heap[w.heap.size + 1]? = some (.cells #[.int .i64 v, .int .i64 t, .int .i64 n, .int .u32 x] 80 (0, 0)) := (HB2.out.block _ (by simp)).trans HH1.out
  have c0 := cell_heap HH 0
  have c1 := cell_heap HH 1
  have c2 := cell_heap HH 2
  have c3 := cell_heap HH 3
  clear HH
  go_wp2_with fail
  (with_reducible refine (HRef _).out.mono ?_)
  rintro e w3 ⟨vb, rfl, hib, hb⟩
  have HB3 := Lib.hid (HB2.out.trans (hb.mono HB2.out.size))
  have HX3 := Lib.hid (HX2.out.below hb)
  have HY3 := Lib.hid hib
  clear hib hb c0 c1 c2 c3
  have HG := HGet w3 _ (H2.out.below (HBx.out.trans (HB3.out.mono HBx.out.size)))
  go_wp2_with fail
  (with_reducible refine HG.out.mono ?_)
  rintro e w4 ⟨rfl, hb⟩
  have HB4 := Lib.hid (HB3.out.trans (hb.mono HB3.out.size))
  have HX4 := Lib.hid (HX3.out.below hb)
  have HY4 := Lib.hid (HY3.out.below hb)
  clear hb
  have HG6 := HGet6 (w4.alloc (.cells #[.int .i64 v', .int .i64 t', .int .i64 n', .int .u32 x'] 48)) _ ((H2.out.below (HBx.out.trans (HB4.out.mono HBx.out.size))).alloc _)
  go_wp2_with fail
  (with_reducible refine HG6.out.mono ?_)
  rintro e w5 ⟨rfl, hb⟩
  have HB5 := Lib.hid (HB4.out.trans ((below1 hb).mono HB4.out.size))
  have HX5 := Lib.hid ((HX4.out.alloc _).below hb)
  have HY5 := Lib.hid ((HY4.out.alloc _).below hb)
  have HHd5 : Hid (w5.heap[w4.heap.size]? = some (.cells #[.int .i64 v', .int .i64 t', .int .i64 n', .int .u32 x'] 48 (0, 0))) := (hb.block _ (by simp)).trans (heap_alloc_new _ _)
  have hs45 : Hid (w4.heap.size < w5.heap.size) := by have := hb.size; show _ < _; simp at this; omega
  clear hb
  go_wp2_with fail
  (with_reducible refine (HA _).out.mono ?_)
  rintro e w9 ⟨rfl, hw⟩
  have HB9 : Hid (Below w5.heap.size w5 w9) := by subst hw; exact below_alloc2 _
  have HB := Lib.hid (HB5.out.trans (HB9.out.mono HB5.out.size))
  have HX9 := Lib.hid (HX5.out.below HB9.out)
  have HY9 := Lib.hid (HY5.out.below HB9.out)
  have HHa := (HB.out.block _ (by simp; omega)).trans HH0.out
  have HHb := (HB.out.block _ (by simp)).trans HH1.out
  have HHc := (HB9.out.block _ hs45.out).trans HHd5.out
  have HHd : w9.heap[w5.heap.size]? = some (.cells #[.int .i64 v', .int .i64 t', .int .i64 n', .int .u32 x'] 80 (0, 0)) := by subst hw; exact heap_alloc_new _ _
  clear hw
  have HS : Held6 w9 w9 w.heap.size (w.heap.size + 1) w4.heap.size w5.heap.size v t n x v' t' n' x' :=
    ⟨⟨cell_heap HHa 0, cell_heap HHa 1, cell_heap HHa 2, cell_heap HHa 3⟩, ⟨cell_heap HHb 0, cell_heap HHb 1, cell_heap HHb 2, cell_heap HHb 3⟩, ⟨cell_heap HHc 0, cell_heap HHc 1, cell_heap HHc 2, cell_heap HHc 3⟩, ⟨cell_heap HHd 0, cell_heap HHd 1, cell_heap HHd 2, cell_heap HHd 3⟩, Below.refl _ _⟩
  clear HHa HHb HHc HHd
  have HS := Lib.hid HS
  go_wp2_with fail
  (with_reducible refine (HA6 _).out.mono ?_)
  rintro e w9' ⟨rfl, rfl⟩
  have HSd : Held6 w9 w9.drew w.heap.size (w.heap.size + 1) w4.heap.size w5.heap.size v t n x v' t' n' x' := ⟨HS.out.1, HS.out.2.1, HS.out.2.2.1, HS.out.2.2.2.1, below_drewN (Below.refl _ _) 1⟩
  go_wp2_with fail
  go_region_held (fun w' => Held6 w9 w' w.heap.size (w.heap.size + 1) w4.heap.size w5.heap.size v t n x v' t' n' x') (first | assumption | exact HSd) (first
    | (go_at_call 25; refine (ref_bytes _ _ l l _ (HX9.out.below (Held6.bel (by assumption))) (HY9.out.below (Held6.bel (by assumption)))).mono ?_; rintro e w' ⟨rfl, hb⟩; rw [show decide (l = l) = true from decide_eq_true rfl]; have hS' := Held6.next (by assumption) hb; clear hb)
    | (go_at_call 31; (with_reducible refine (HC _).out.mono ?_); rintro e w' ⟨rfl, hb⟩; have hS' := Held6.next (by assumption) hb; clear hb)
    | (go_at_call 60; (with_reducible refine (HC6 _).out.mono ?_); rintro e w' ⟨rfl, hb⟩; have hS' := Held6.next (by assumption) hb; clear hb)
    | (go_at_call 29; (with_reducible refine (HL _).out.mono ?_); rintro e w' ⟨rfl, hb⟩; have hS' := Held6.next (by assumption) hb; clear hb)
    | (go_at_call 61; (with_reducible refine (HL6 _).out.mono ?_); rintro e w' ⟨rfl, hb⟩; have hS' := Held6.next (by assumption) hb; clear hb)
    | (go_at_call 32; (with_reducible refine (sure06 _).mono ?_); rintro e w' ⟨rfl, hb⟩; have hS' := Held6.next (by assumption) hb; clear hb))
  all_goals go_wp2
  all_goals go_ret
  all_goals exact ⟨rfl, HBx.out.trans ((HB.out.trans ((Held6.bel (by assumption)).mono HB.out.size)).mono HBx.out.size)⟩
end Go.Proofs.Ytdljlcbjpfgmcaa
