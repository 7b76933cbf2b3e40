/- The fixed calls of the second chapter's statements come out true. -/
import Derived.Test.YtdljlcbjpfgmcaaCurC
import Derived.Test.YtdljlcbjpfgmcaaCurD
namespace Go.Proofs.Ytdljlcbjpfgmcaa
open Go.RowKit

/-- Since w a cursor p has been made, below block E, which stands as s; what lay below w's end is as it was. -/
def On (w : World) (E : Nat) (w' : World) (p : Nat) (s : St) : Prop := Below w.heap.size w w' ∧ Cur (w.heap.size, E) w' p s

theorem below_row {B : Nat} {w w1 w2 : World} {p : Nat} (hb : Below B w w1) (hs : B ≤ w1.heap.size) (hg : w1.grownBy w2 (some p)) (hp : B ≤ p) : Below B w w2 :=
  hb.grown hg hs fun k e => by injection e with e; omega
theorem On.step {w w1 w2 : World} {E p : Nat} {s s' : St} (h : On w E w1 p s) (hc : Cur (w.heap.size, E) w2 p s') (hg : w1.grownBy w2 (some p)) : On w E w2 p s' :=
  ⟨below_row h.1 h.1.size hg h.2.from, hc⟩
theorem On.below {w w1 w2 : World} {E p : Nat} {s : St} (h : On w E w1 p s) (hb : Below w1.heap.size w1 w2) : On w E w2 p s :=
  ⟨h.1.trans (hb.mono h.1.size), h.2.below hb⟩
theorem On.drew {w w1 : World} {E p : Nat} {s : St} (h : On w E w1 p s) (q : Nat) : On w E (w1.drewN q) p s := ⟨below_drewN h.1 q, h.2⟩
theorem On.alloc {w w1 : World} {E p : Nat} {s : St} (h : On w E w1 p s) (o : Obj) : On w E (w1.alloc o) p s := h.below (below_alloc2 o)
theorem On.start {w w1 : World} {o : Obj} {E p : Nat} {s : St} (hc : Cur ((w.alloc o).heap.size, E) w1 p s) (hb : Below (w.alloc o).heap.size (w.alloc o) w1) : On w E w1 p s :=
  ⟨below1 hb, hc.lower (by simp)⟩

def su0 : St := St.fresh [1, 2, 0, 3] 263 518
def su1 : St := { su0 with pos := 2 }
def su2 : St := { su0 with pos := 4 }
def su3 : St := { su2 with er := 263 }
theorem su_1 : su0.row [2] = (su1, [258]) := by rfl
theorem su_2 : su1.row [-1, 1] = (su2, [3]) := by rfl
theorem su_3 : su2.num 1 = (su3, 0) := by rfl

set_option maxRecDepth 100000 in
set_option maxHeartbeats 4000000 in
theorem sure02 (w : World) : Calls Try.prog 33 #[] w fun e w' => e = .returned (.bool true) ∧ Below w.heap.size w w' := by
  go_enter Try.func33, Try.ntmps33
  go_wp2_with fail
  refine (cur_new (Ints.lit .u8 w 5 [1, 2, 0, 3] _ rfl (by decide) (by decide)) (by decide) 263 518).mono ?_
  rintro e w1 ⟨p, rfl, hc, hb⟩
  have H1 : Hid (On w w1.heap.size w1 p su0) := On.start hc hb
  clear hc hb
  go_wp2_with fail
  refine (cur_row (H1.out.2.below (below_alloc2 _)) _ [2] (Ints.lit .i64 w1 3 [2] _ rfl (by decide) (by decide))).mono ?_
  rintro e w2 ⟨va, rfl, ho, hc, hg⟩
  rw [su_1] at ho hc
  have H2 : Hid (On w w1.heap.size w2 p su1) := (H1.out.alloc _).step hc hg
  have hsz2 : Hid (w1.heap.size ≤ w2.heap.size) := by have := hg.size; show _ ≤ _; simp at this; omega
  have HA : Hid (w2.ownsRow w1.heap.size 38 1 va 1 [.int .u64 258]) := own_base ho (by simp)
  clear ho hc hg
  go_wp2_with fail
  refine (cur_row (H2.out.2.below (below_alloc2 _)) _ [-1, 1] (Ints.lit .i64 w2 3 [-1, 1] _ rfl (by decide) (by decide))).mono ?_
  rintro e w3 ⟨vb, rfl, ho, hc, hg⟩
  rw [su_2] at ho hc
  have H3 : Hid (On w w1.heap.size w3 p su2) := (H2.out.alloc _).step hc hg
  have HA3 : Hid (w3.ownsRow w1.heap.size 38 1 va 1 [.int .u64 258]) := own_other (own_below HA.out (below_alloc2 _)) hg (fun k e => by injection e with e; subst e; exact H1.out.2.lt)
  have HB3 : Hid (w3.ownsRow w1.heap.size 38 1 vb 1 [.int .u64 3]) := own_base ho (by have := hsz2.out; simp; omega)
  clear ho hc hg
  go_wp2_with fail
  refine (cur_err H3.out.2).mono ?_
  rintro e w3' ⟨rfl, rfl⟩
  rw [show su2.er = 0 from rfl]
  have HN := cur_num H3.out.2 1 (by decide)
  rw [su_3] at HN
  have HN := Lib.hid HN
  go_wp2_with (go_at_call 39; (with_reducible refine HN.out.mono ?_); rintro e w4 ⟨rfl, hc, hg⟩; have H4 : Hid (On w w1.heap.size w4 p su3) := H3.out.step hc hg; have HA4 : Hid (Ints .u64 w4 va [258]) := Ints.of_own (own_other HA3.out hg (fun k e => by injection e with e; subst e; exact H1.out.2.lt)) (by decide); have HB4 : Hid (Ints .u64 w4 vb [3]) := Ints.of_own (own_other HB3.out hg (fun k e => by injection e with e; subst e; exact H1.out.2.lt)) (by decide); clear hc hg)
  refine (ref_nums _ _ [258] [258] _ (HA4.out.alloc _) (Ints.lit .u64 _ 38 [258] _ rfl (by decide) (by decide))).mono ?_
  rintro e w5 ⟨rfl, hb5⟩
  have H5 : Hid (On w w1.heap.size w5 p su3) := H4.out.below (below1 hb5)
  have HB5 : Hid (Ints .u64 w5 vb [3]) := HB4.out.below (below1 hb5)
  clear hb5
  rw [show decide (([258] : List Int) = [258]) = true by decide]
  go_wp2_with fail
  refine (ref_nums _ _ [3] [3] _ (HB5.out.alloc _) (Ints.lit .u64 _ 38 [3] _ rfl (by decide) (by decide))).mono ?_
  rintro e w6 ⟨rfl, hb6⟩
  have H6 : Hid (On w w1.heap.size w6 p su3) := H5.out.below (below1 hb6)
  clear hb6
  rw [show decide (([3] : List Int) = [3]) = true by decide]
  have HE := cur_err H6.out.2
  rw [show su3.er = 263 from rfl] at HE
  have HE := Lib.hid HE
  have HL := cur_left H6.out.2
  rw [show su3.left = 0 from rfl] at HL
  have HL := Lib.hid HL
  go_wp2_with (first
    | (go_at_call 36; (with_reducible refine HE.out.mono ?_); rintro e w7 ⟨rfl, rfl⟩)
    | (go_at_call 37; (with_reducible refine HL.out.mono ?_); rintro e w7 ⟨rfl, q, rfl⟩; have H7 : Hid (On w w1.heap.size (w6.drewN q) p su3) := H6.out.drew q)
    | (go_at_call 36; (with_reducible refine nil_err.mono ?_); rintro e w7 ⟨rfl, rfl⟩)
    | (go_at_call 39; (with_reducible refine nil_num.mono ?_); rintro e w7 ⟨rfl, hb7⟩; have H8 : Hid (On w w1.heap.size w7 p su3) := H7.out.below hb7; clear hb7)
    | (go_at_call 35; (with_reducible refine (nil_sub _ _).mono ?_); rintro e w8 ⟨rfl, rfl⟩))
  go_ret
  exact ⟨rfl, H8.out.1⟩

end Go.Proofs.Ytdljlcbjpfgmcaa
