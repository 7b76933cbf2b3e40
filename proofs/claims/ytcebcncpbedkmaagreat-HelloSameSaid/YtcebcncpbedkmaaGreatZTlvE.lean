/- Things written, in plain Lean, and what a buffer holds while one is written. Conditions: those of each lemma. The walk of tlv.Join. Conditions: the argument reads as things, at most 10^6 of them. -/
import Derived.Test.YtcebcncpbedkmaaGreatZTlvA
import Derived.Test.YtcebcncpbedkmaaGreatZPlain01
import Derived.Test.YtcebcncpbedkmaaGreatZBufA
namespace Go.Proofs.YtcebcncpbedkmaaGreat
open Go.RowKit

theorem put_22 {t n : Int} (ht : 0 ≤ t ∧ t ≤ 65535) (hn : 0 ≤ n ∧ n ≤ 65535) : putS [2, 2] [t, n] = some (be 2 t ++ be 2 n) := by
  have hr : RightS [2, 2] = true := by decide
  have h2 : (256 : Int) ^ 2 = 65536 := by decide
  have f1 : fitsW t 2 = true := by simp [fitsW]; omega
  have f2 : fitsW n 2 = true := by simp [fitsW]; omega
  simp [putS, hr, cntL, putL, f1, f2]

def bf1 (t : Int) (len z : Nat) : Bf := ⟨be 2 t ++ be 2 (4 + len : Nat), 4 + len + z, .map [], 0, 0⟩
def bf2 (t : Int) (bs : List Int) (z : Nat) : Bf := ⟨be 2 t ++ be 2 (4 + bs.length : Nat) ++ bs, 4 + bs.length + z, .map [], 0, 0⟩
def bf3 (t : Int) (bs : List Int) (z : Nat) : Bf := ⟨be 2 t ++ be 2 (4 + bs.length : Nat) ++ bs ++ List.replicate z 0, 4 + bs.length + z, .map [], 0, 0⟩

theorem bf_1 {t : Int} {len z : Nat} (ht : 0 ≤ t ∧ t ≤ 65535) (hn : 4 + len ≤ 65535) : (Bf.new (4 + len + z)).row [2, 2] [t, (4 + len : Nat)] = bf1 t len z := by
  unfold Bf.row
  rw [put_22 ht (by omega)]
  show (Bf.new (4 + len + z)).bytes _ = _
  rw [bytes_b_fine rfl (by simp [Bf.new, be_length]; omega)]
  simp [Bf.new, bf1]
theorem bf_2 (t : Int) (bs : List Int) (z : Nat) : (bf1 t bs.length z).bytes bs = bf2 t bs z := by
  rw [bytes_b_fine rfl (by simp [bf1, be_length]; omega)]
  simp [bf1, bf2]
theorem bf_3 (t : Int) (bs : List Int) (z : Nat) : (bf2 t bs z).bytes (List.replicate z 0) = bf3 t bs z := by
  rw [bytes_b_fine rfl (by simp [bf2, be_length]; omega)]
  simp [bf2, bf3]
theorem bf_4 (s : Sh) (t : Int) (bs : List Int) : (bf3 t bs (s.zeros (4 + bs.length))).done = (s.thing (t, bs), 0) := by
  unfold Bf.done
  rw [if_neg (by simp [bf3]), if_neg (by simp [bf3, Maps.size])]
  simp [bf3, Sh.thing]

theorem Sh.all_snoc (s : Sh) (l : List (Int × List Int)) (x : Int × List Int) : s.all (l ++ [x]) = s.all l ++ s.thing x := by simp [Sh.all]
theorem take_snoc' {α : Type} {l : List α} {k : Nat} {x : α} (h : l[k]? = some x) : l.take (k + 1) = l.take k ++ [x] := by
  rw [List.take_add_one, h]; rfl
theorem Sh.thing_u8 {s : Sh} {x : Int × List Int} (h : U8 x.2) : U8 (s.thing x) := by
  unfold Sh.thing
  intro z hz
  simp only [List.mem_append] at hz
  rcases hz with hz | hz | hz | hz
  · exact be_byte _ _ z hz
  · exact be_byte _ _ z hz
  · exact h z hz
  · have := List.eq_of_mem_replicate hz; omega
theorem Sh.all_u8 {s : Sh} {l : List (Int × List Int)} (h : ∀ x ∈ l, U8 x.2) : U8 (s.all l) := by
  intro z hz
  obtain ⟨y, hy, hzy⟩ := List.mem_flatten.1 hz
  obtain ⟨x, hx, rfl⟩ := List.mem_map.1 hy
  exact Sh.thing_u8 (h x hx) z hzy
theorem Sh.all_len {s : Sh} (hm : s.may = true) {l : List (Int × List Int)} (h : l.all s.good = true) : (s.all l).length ≤ 70000 * l.length := by
  induction l with
  | nil => simp [Sh.all]
  | cons x l ih =>
    simp only [List.all_cons, Bool.and_eq_true] at h
    have h1 := ih h.2
    have h2 := s.thing_len x
    have h3 := Sh.zeros_lt hm (4 + x.2.length)
    have h4 := h.1
    simp only [Sh.good, Bool.and_eq_true, decide_eq_true_eq] at h4
    have e : s.all (x :: l) = s.thing x ++ s.all l := by simp [Sh.all]
    rw [e, List.length_append, List.length_cons]
    omega

/-- Since w a shape has been laid; it stands. -/
structure Sh1 (w : World) (s : Sh) (w' : World) : Prop where
  below : Below w.heap.size w w'
  size : w.heap.size + 1 ≤ w'.heap.size
  sh : w'.heap[w.heap.size]? = some (.cells #[.int .i64 s.least, .int .i64 s.step, .bool s.pad, .int .i64 s.bad, .int .i64 s.odd] 111 (0, 0))
theorem Sh1.start (w : World) (s : Sh) : Sh1 w s (w.alloc (.cells #[.int .i64 s.least, .int .i64 s.step, .bool s.pad, .int .i64 s.bad, .int .i64 s.odd] 111)) where
  below := below_alloc2 _
  size := by simp
  sh := heap_alloc_new w _
theorem Sh1.step {w w1 w2 : World} {s : Sh} {B : Nat} (h : Sh1 w s w1) (hb : Below B w1 w2) (hB : w.heap.size + 1 ≤ B) : Sh1 w s w2 where
  below := h.below.trans (hb.mono (by omega))
  size := Nat.le_trans h.size hb.size
  sh := (hb.block _ (by omega)).trans h.sh
theorem Sh1.cells {w w' : World} {s : Sh} (h : Sh1 w s w') :
    w'.cell? ⟨w.heap.size, 0, none⟩ = some (.int .i64 s.least) ∧ w'.cell? ⟨w.heap.size, 1, none⟩ = some (.int .i64 s.step) ∧ w'.cell? ⟨w.heap.size, 2, none⟩ = some (.bool s.pad) ∧ w'.cell? ⟨w.heap.size, 3, none⟩ = some (.int .i64 s.bad) ∧ w'.cell? ⟨w.heap.size, 4, none⟩ = some (.int .i64 s.odd) :=
  ⟨cell_row h.sh 0, cell_row h.sh 1, cell_row h.sh 2, cell_row h.sh 3, cell_row h.sh 4⟩

/-- What Join hands back. -/
def GotJoin (s : Sh) (l : List (Int × List Int)) (w : World) (e : Ending) (w' : World) : Prop :=
  ∃ v, e = .returned (.tuple #[v, .int .i64 (s.join l).2]) ∧ w'.ownsRow w.heap.size 5 1 v (s.join l).1.length ((s.join l).1.map (Value.int .u8)) ∧ U8 (s.join l).1 ∧ Below w.heap.size w w'
theorem GotJoin.none {s : Sh} {l : List (Int × List Int)} {w w' : World} (h : (s.may && l.all s.good) = false) (hb : Below w.heap.size w w') : GotJoin s l w (.returned (.tuple #[.slice none 0 0, .int .i64 10001])) w' := by
  have : s.join l = ([], 10001) := by rw [Sh.join, if_neg (by simp [h])]
  unfold GotJoin
  rw [this]
  exact ⟨_, rfl, World.ownsRow_nil _ _ _ _, fun z hz => by simp at hz, hb⟩


/-- While a thing is written: the shape, the thing's copy, its bytes, and what has been written so far. -/
structure J2 (w : World) (s : Sh) (w' : World) (X : Nat) (t : Int) (bv : Value) (bs : List Int) (r : Value) (xs : List Int) : Prop where
  sh : Sh1 w s w'
  item : w'.heap[X]? = some (.cells #[.int .i64 t, bv] 108 (0, 0))
  ints : Ints .u8 w' bv bs
  own : w'.ownsRow (w.heap.size + 1) 5 1 r xs.length (xs.map (Value.int .u8))
theorem J2.start {w w1 : World} {s : Sh} {t : Int} {bv r : Value} {bs xs : List Int} (h : Sh1 w s w1) (hi : Ints .u8 w1 bv bs) (ho : w1.ownsRow (w.heap.size + 1) 5 1 r xs.length (xs.map (Value.int .u8))) :
    J2 w s (w1.alloc (.cells #[.int .i64 t, bv] 108)) w1.heap.size t bv bs r xs where
  sh := h.step (below_alloc2 _) h.size
  item := heap_alloc_new _ _
  ints := hi.alloc _
  own := own_below ho (below_alloc2 _)
theorem J2.below {w w1 w2 : World} {s : Sh} {X : Nat} {t : Int} {bv r : Value} {bs xs : List Int} (h : J2 w s w1 X t bv bs r xs) (hb : Below w1.heap.size w1 w2) : J2 w s w2 X t bv bs r xs where
  sh := h.sh.step hb h.sh.size
  item := (hb.block X (Array.getElem?_eq_some_iff.1 h.item).1).trans h.item
  ints := h.ints.below hb
  own := own_below h.own hb
theorem J2.cells {w w' : World} {s : Sh} {X : Nat} {t : Int} {bv r : Value} {bs xs : List Int} (h : J2 w s w' X t bv bs r xs) :
    w'.cell? ⟨w.heap.size, 0, none⟩ = some (.int .i64 s.least) ∧ w'.cell? ⟨w.heap.size, 1, none⟩ = some (.int .i64 s.step) ∧ w'.cell? ⟨w.heap.size, 2, none⟩ = some (.bool s.pad) ∧ w'.cell? ⟨w.heap.size, 3, none⟩ = some (.int .i64 s.bad) ∧ w'.cell? ⟨w.heap.size, 4, none⟩ = some (.int .i64 s.odd) ∧
    w'.cell? ⟨X, 0, none⟩ = some (.int .i64 t) ∧ w'.cell? ⟨X, 1, none⟩ = some bv :=
  ⟨cell_row h.sh.sh 0, cell_row h.sh.sh 1, cell_row h.sh.sh 2, cell_row h.sh.sh 3, cell_row h.sh.sh 4, cell_row h.item 0, cell_row h.item 1⟩
theorem zeros_map (n : Nat) : List.replicate n (Value.int .u8 0) = (List.replicate n (0 : Int)).map (Value.int .u8) := by simp
theorem zeros_wf (n : Nat) : ∀ z ∈ List.replicate n (0 : Int), (Lit.int .u8 z).wf = true := fun z hz => by
  have := List.eq_of_mem_replicate hz
  subst this
  rfl
end Go.Proofs.YtcebcncpbedkmaaGreat
namespace Go.Proofs.YtcebcncpbedkmaaGreat
open Go.RowKit
set_option maxRecDepth 100000
set_option maxHeartbeats 4000000

theorem join_may {s : Sh} {v : Value} {l : List (Int × List Int)} {w : World} (hm : s.may = false) : Calls Tryz.prog 61 #[s.val, v] w (GotJoin s l w) := by
  have HM := sh_may s
  rw [hm] at HM
  have HM := Lib.hid HM
  have HO : Hid ((s.may && l.all s.good) = false) := by show _ = _; rw [hm]; rfl
  clear hm
  simp only [Sh.val]
  go_enter Tryz.func61, Tryz.ntmps61
  go_wp2_with (go_at_call 93; (with_reducible refine (HM.out _).mono ?_); rintro e w1 ⟨rfl, hb⟩; have H1 := Lib.hid ((Sh1.start w s).step hb (by simp)); clear hb)
  go_ret2
  exact GotJoin.none HO.out H1.out.below

theorem good_false {s : Sh} {l : List (Int × List Int)} {k : Nat} {x : Int × List Int} (h : l[k]? = some x) (hg : s.good x = false) : (s.may && l.all s.good) = false := by
  have : l.all s.good = false := by
    rw [List.all_eq_false]
    exact ⟨x, List.mem_of_getElem? h, by simp [hg]⟩
  simp [this]
theorem take_all {s : Sh} {l : List (Int × List Int)} {k : Nat} {x : Int × List Int} (h : l[k]? = some x) (hg : s.good x = true) (ha : (l.take k).all s.good = true) : (l.take (k + 1)).all s.good = true := by
  rw [take_snoc' h, List.all_append, ha]
  simp [hg]

theorem tlv_join {s : Sh} {v : Value} {l : List (Int × List Int)} {w : World} (h : RowsOf ItemR 2 w v l) (hl : l.length ≤ 1000000) (hbs : ∀ x ∈ l, x.2.length ≤ 1000000000) : Calls Tryz.prog 61 #[s.val, v] w (GotJoin s l w) := by
  cases hm : s.may with
  | false => exact join_may hm
  | true =>
  have HM := sh_may s
  rw [hm] at HM
  have HM := Lib.hid HM
  have HFt := Lib.hid (fun n hn w => sh_fits hm n hn w)
  have HZ := Lib.hid (fun n hn w => sh_zeros hm n hn w)
  have HZl := Lib.hid (Sh.zeros_lt hm)
  have HMay := Lib.hid hm
  obtain ⟨a, cap, b, off, rfl, hcap, hmx, -, ha, hit⟩ := items_open h
  unfold maxLen at hmx
  have A := Lib.hid ha
  have HIt := Lib.hid hit
  have HBs := Lib.hid hbs
  clear h hm ha hit hbs
  simp only [Sh.val]
  go_enter Tryz.func61, Tryz.ntmps61
  go_wp2_with (go_at_call 93; (with_reducible refine (HM.out _).mono ?_); rintro e w1 ⟨rfl, hb⟩; have H1 := Lib.hid ((Sh1.start w s).step hb (by simp)); clear hb)
  go_loopw [21] (fun i wr => ∃ k : Nat, k ≤ l.length ∧ i = .int .i64 k ∧ Hid (Sh1 w s wr) ∧ Hid ((l.take k).all s.good = true)) (fun i _ => l.length - (intOf i).toNat)
  case atStart => exact ⟨0, by omega, rfl, H1.out, rfl⟩
  case round =>
    obtain ⟨k, hk, rfl, HS, HG⟩ := hrel
    by_cases hlt : k < l.length
    case pos =>
      obtain rfl := A.out (by omega)
      obtain ⟨⟨t, bs⟩, hx⟩ : ∃ x, l[k]? = some x := ⟨_, List.getElem?_eq_getElem hlt⟩
      obtain ⟨bv, x0, x1, hbv, hwf⟩ := HIt.out k t bs hx
      have hbl : bs.length ≤ 1000000000 := HBs.out (t, bs) (List.mem_of_getElem? hx)
      obtain ⟨ab, capb, bb, ob, rfl, hc1, hc2, -⟩ := hbv.open
      unfold maxLen at hc2
      have y0 := (HS.out.below.cell (World.block_lt_of_cell? _ _ x0)).trans x0
      have y1 := (HS.out.below.cell (World.block_lt_of_cell? _ _ x1)).trans x1
      have HX := Lib.hid hx
      obtain ⟨c0, c1, c2, c3, c4⟩ := (HS.out.step (below_alloc2 (.cells #[.int .i64 t, .slice ab bs.length capb] 108)) HS.out.size).cells
      clear x0 x1 hx hbv
      cases hg : s.good (t, bs) with
      | false =>
        have HB := Lib.hid (good_false HX.out hg)
        by_cases b1 : t < 0
        · have e1 : decide (t < 0) = true := decide_eq_true b1
          clear hg b1
          go_wp2
          go_ret2
          exact GotJoin.none HB.out (HS.out.step (below_alloc2 _) HS.out.size).below
        have e1 : decide (t < 0) = false := decide_eq_false b1
        by_cases b2 : 65535 < t
        · have e2 : decide ((65535 : Int) < t) = true := decide_eq_true b2
          clear hg b1 b2
          go_wp2
          go_ret2
          exact GotJoin.none HB.out (HS.out.step (below_alloc2 _) HS.out.size).below
        have e2 : decide ((65535 : Int) < t) = false := decide_eq_false b2
        by_cases b3 : 65535 < 4 + bs.length
        · have e3 : decide ((65535 : Int) < 4 + (bs.length : Int)) = true := decide_eq_true (by omega)
          clear hg b1 b2 b3
          go_wp2
          go_ret2
          exact GotJoin.none HB.out (HS.out.step (below_alloc2 _) HS.out.size).below
        have e3 : decide ((65535 : Int) < 4 + (bs.length : Int)) = false := decide_eq_false (by omega)
        have g4 : s.fits (4 + bs.length) = false := by
          have e4 : decide (0 ≤ t) = true := decide_eq_true (by omega)
          have e5 : decide (t ≤ 65535) = true := decide_eq_true (by omega)
          have e6 : decide (4 + bs.length ≤ 65535) = true := decide_eq_true (by omega)
          simpa [Sh.good, e4, e5, e6] using hg
        have HF1 := HFt.out (4 + bs.length) (by omega)
        rw [g4, show ((4 + bs.length : Nat) : Int) = 4 + (bs.length : Int) by omega] at HF1
        have HF1 := Lib.hid HF1
        clear hg b1 b2 b3 g4
        go_wp2_with (go_at_call 94; (with_reducible refine (HF1.out _).mono ?_); rintro e w2 ⟨rfl, hb⟩; have H2 := Lib.hid ((HS.out.step (below_alloc2 _) HS.out.size).step hb (by have := HS.out.size; simp; omega)); clear hb)
        go_ret2
        exact GotJoin.none HB.out H2.out.below
      | true =>
        have HG1 := Lib.hid (take_all HX.out hg HG.out)
        simp only [Sh.good, Bool.and_eq_true, decide_eq_true_eq] at hg
        obtain ⟨⟨⟨g1, g2⟩, g3⟩, g4⟩ := hg
        have g5 : (4 : Int) + (bs.length : Int) ≤ 65535 := by omega
        have e2 : decide ((65535 : Int) < t) = false := decide_eq_false (by omega)
        have e1 : decide (t < 0) = false := decide_eq_false (by omega)
        have e3 : decide ((65535 : Int) < 4 + (bs.length : Int)) = false := decide_eq_false (by omega)
        have HF1 := HFt.out (4 + bs.length) (by omega)
        rw [g4, show ((4 + bs.length : Nat) : Int) = 4 + (bs.length : Int) by omega] at HF1
        have HF1 := Lib.hid HF1
        clear g4
        go_wp2_with (go_at_call 94; (with_reducible refine (HF1.out _).mono ?_); rintro e w2 ⟨rfl, hb⟩; have H2 := Lib.hid ((HS.out.step (below_alloc2 _) HS.out.size).step hb (by have := HS.out.size; simp; omega)); clear hb)
        go_roundw
        case rel => exact ⟨k + 1, by omega, by go_num, H2.out, HG1.out⟩
        case measure => simp [intOf]; omega
    case neg =>
      obtain rfl : k = l.length := by omega
      have HAll : Hid (l.all s.good = true) := by have := HG.out; rw [List.take_length] at this; exact this
      have HJ : Hid (s.join l = (s.all l, 0)) := by show _ = _; rw [Sh.join, if_pos (by simp only [Bool.and_eq_true]; exact ⟨HMay.out, HAll.out⟩)]
      clear hlt hk
      go_wp2_with fail
      go_loopw [9, 50] (fun r i wx => ∃ j : Nat, j ≤ l.length ∧ i = .int .i64 j ∧ Hid (Sh1 w s wx) ∧ Hid (wx.ownsRow (w.heap.size + 1) 5 1 r (s.all (l.take j)).length ((s.all (l.take j)).map (Value.int .u8)))) (fun _ i _ => l.length - (intOf i).toNat)
      case atStart => exact ⟨0, by omega, rfl, HS.out, World.ownsRow_nil _ _ _ _⟩
      case round =>
        obtain ⟨j, hj, rfl, HT, HO⟩ := hrel
        obtain ⟨ar, capr, rfl⟩ := own_slice HO.out
        by_cases hlt : j < l.length
        case neg =>
          obtain rfl : j = l.length := by omega
          go_wp2_with fail
          go_ret2
          have := HO.out
          rw [List.take_length] at this
          unfold GotJoin
          rw [HJ.out]
          exact ⟨_, rfl, by rw [List.take_length]; exact own_base this (by omega), Sh.all_u8 (fun x hx => by obtain ⟨i, hi⟩ := List.mem_iff_getElem?.1 hx; obtain ⟨_, _, _, h9, _⟩ := HIt.out i x.1 x.2 hi; exact h9.u8), HT.out.below⟩
        obtain rfl := A.out (by omega)
        obtain ⟨⟨t, bs⟩, hx⟩ : ∃ x, l[j]? = some x := ⟨_, List.getElem?_eq_getElem hlt⟩
        obtain ⟨bv, x0, x1, hbv, hwf⟩ := HIt.out j t bs hx
        have hg : s.good (t, bs) = true := List.all_eq_true.1 HAll.out _ (List.mem_of_getElem? hx)
        have hbi := hbv.below HT.out.below
        obtain ⟨ab, capb, bb, ob, rfl, hc1, hc2, -⟩ := hbv.open
        unfold maxLen at hc2
        have y0 := (HT.out.below.cell (World.block_lt_of_cell? _ _ x0)).trans x0
        have y1 := (HT.out.below.cell (World.block_lt_of_cell? _ _ x1)).trans x1
        have HSn : Hid (s.all (l.take (j + 1)) = s.all (l.take j) ++ s.thing (t, bs)) := by rw [Hid, take_snoc' hx, Sh.all_snoc]
        have hlen : (s.all (l.take j)).length ≤ 70000 * (l.take j).length := Sh.all_len HMay.out (by rw [List.all_eq_true]; exact fun x hx' => List.all_eq_true.1 HAll.out x (List.mem_of_mem_take hx'))
        rw [List.length_take] at hlen
        simp only [Sh.good, Bool.and_eq_true, decide_eq_true_eq] at hg
        obtain ⟨⟨⟨g1, g2⟩, g3⟩, -⟩ := hg
        have hz := HZl.out (4 + bs.length)
        have HZ1 := HZ.out (4 + bs.length) (by omega)
        have hb4 := bf_4 s t bs
        have htl := s.thing_len (t, bs)
        have htu : U8 (s.thing (t, bs)) := Sh.thing_u8 hbi.u8
        simp only [] at htl
        generalize s.zeros (4 + bs.length) = z at hz HZ1 hb4 htl
        generalize s.thing (t, bs) = th at HSn hb4 htl htu
        generalize s.all (l.take j) = all0 at HSn HO hlen ⊢
        have HB4 := Lib.hid hb4
        have HTu := Lib.hid htu
        rw [show ((4 + bs.length : Nat) : Int) = 4 + (bs.length : Int) by omega] at HZ1
        have HZ1 := Lib.hid HZ1
        have HBI := Lib.hid hbi
        have htb : th.length ≤ 70000 := by omega
        clear htl
        have hj0 := J2.start (t := t) HT.out HBI.out HO.out
        obtain ⟨c0, c1, c2, c3, c4, d0, d1⟩ := hj0.cells
        have J0 := Lib.hid hj0
        have HZa := HZ1
        have HZb := HZ1
        have HN : Hid (∀ w, Calls Tryz.prog 95 #[.int .i64 (4 + (bs.length : Int) + (z : Int))] w fun e w' => ∃ p m, e = .returned (.pointer (some ⟨p, 0, none⟩)) ∧ Buf w.heap.size w' p m none (Bf.new (4 + bs.length + z)) ∧ Below w.heap.size w w') := fun w => by
          rw [show 4 + (bs.length : Int) + (z : Int) = ((4 + bs.length + z : Nat) : Int) by omega]
          exact buf_new (by omega) w
        have HR1 : Hid ((Bf.new (4 + bs.length + z)).row [2, 2] [t, 4 + (bs.length : Int)] = bf1 t bs.length z) := by
          rw [show 4 + (bs.length : Int) = ((4 + bs.length : Nat) : Int) by omega]
          exact bf_1 ⟨g1, g2⟩ g3
        have HWf : Hid (∀ u ∈ [t, 4 + (bs.length : Int)], (Lit.int .u64 u).wf = true) := U64.wf (by intro u hu; simp at hu; omega)
        clear x0 x1 hx hbv hbi hb4 htu HZ1
        go_wp2_with (first
          | (go_at_call 96; (with_reducible refine (HZa.out _).mono ?_); rintro e w2 ⟨rfl, hb⟩; have J1 := Lib.hid (J0.out.below hb); clear HZa hb c0 c1 c2 c3 c4 d0 d1; obtain ⟨c0, c1, c2, c3, c4, d0, d1⟩ := J1.out.cells)
          | (go_at_call 95; (with_reducible refine (HN.out _).mono ?_); rintro e w3 ⟨p, m, rfl, hbu, hb⟩; have HBu := Lib.hid hbu; have HB3 := Lib.hid hb; have hj3 := (J1.out.below hb).below (below_alloc2 (.cells #[.int .i64 2, .int .i64 2] 3)); clear hbu hb c0 c1 c2 c3 c4 d0 d1; obtain ⟨c0, c1, c2, c3, c4, d0, d1⟩ := hj3.cells; clear hj3)
          | fail)
        have hr := buf_row ((HBu.out.below (below_alloc2 (.cells #[.int .i64 2, .int .i64 2] 3))).below (below_alloc2 (.cells #[.int .u64 t, .int .u64 (4 + (bs.length : Int))] 68))) ((Ints.lit .i64 w3 3 [2, 2] _ rfl (by decide) (by decide)).alloc (.cells #[.int .u64 t, .int .u64 (4 + (bs.length : Int))] 68)) (Ints.lit .u64 (w3.alloc (.cells #[.int .i64 2, .int .i64 2] 3)) 68 [t, 4 + (bs.length : Int)] (w3.heap.size + 1) (by simp) (by simp) HWf.out)
        rw [HR1.out] at hr
        refine hr.mono ?_
        clear hr
        rintro e w4 hf
        have hf := GotB.after ((below_alloc2 (.cells #[.int .i64 2, .int .i64 2] 3)).trans ((below_alloc2 (.cells #[.int .u64 t, .int .u64 (4 + (bs.length : Int))] 68)).mono (by simp))) hf
        obtain ⟨rfl, g1', hbu, ht, hg⟩ := hf
        have HB4' := Lib.hid (ht.below HB3.out HB3.out.size HBu.out.from)
        have HBu4 := Lib.hid hbu
        have J4 := Lib.hid (J1.out.below HB4'.out)
        have HY1 := Lib.hid (buf_bytes hbu J4.out.ints)
        have HY1 := by have := HY1.out; rw [bf_2] at this; exact Lib.hid this
        clear hbu ht hg c0 c1 c2 c3 c4 d0 d1
        obtain ⟨c0, c1, c2, c3, c4, d0, d1⟩ := J4.out.cells
        go_wp2_with (first
          | (go_at_call 98; (with_reducible refine HY1.out.mono ?_); rintro e w5 ⟨rfl, g2', hbu, ht, hg⟩; have HB5 := Lib.hid (ht.below HB4'.out HB4'.out.size HBu4.out.from); have HBu5 := Lib.hid hbu; have J5 := Lib.hid (J1.out.below HB5.out); clear HY1 hbu ht hg c0 c1 c2 c3 c4 d0 d1; obtain ⟨c0, c1, c2, c3, c4, d0, d1⟩ := J5.out.cells)
          | (go_at_call 96; (with_reducible refine (HZb.out _).mono ?_); rintro e w6 ⟨rfl, hb⟩; have HB6 := Lib.hid (HB5.out.trans (hb.mono HB5.out.size)); have HBu6 := Lib.hid (HBu5.out.below hb); clear HZb hb c0 c1 c2 c3 c4 d0 d1)
          | (at_make; refine wpList_makeN rfl _ _ _ rfl w6.heap.size 5 (.int .u8 0) 1 Tryz.underlying24 info_u8 rfl .i64 .i64 _ _ z rfl rfl rfl rfl (by omega) (by unfold maxLen; omega) (Nat.le_refl _) ?_; intro w7 hown hb; have HX7 : Hid (Ints .u8 w7 (.slice (some ⟨w6.heap.size, 0, none⟩) z z) (List.replicate z 0)) := (by rw [zeros_map] at hown; have := Ints.of_own (zs := List.replicate z 0) (by simpa using hown) (zeros_wf z); exact this); have HB7 := Lib.hid (HB6.out.trans (hb.mono HB6.out.size)); have HBu7 := Lib.hid (HBu6.out.below hb); have HY2 := buf_bytes HBu7.out HX7.out; rw [bf_3] at HY2; have HY2 := Lib.hid HY2; clear hown hb)
          | fail)
        refine HY2.out.mono ?_
        rintro e w8 ⟨rfl, g3', hbu, ht, hg⟩
        have HB8 := Lib.hid (ht.below HB7.out HB7.out.size HBu7.out.from)
        have hd := buf_done hbu
        rw [HB4.out] at hd
        have HD := Lib.hid hd
        clear hbu ht hg hd
        go_wp2_with (first
          | (go_at_call 99; (with_reducible refine HD.out.mono ?_); rintro e w9 ⟨vy, rfl, hoy, hb⟩; obtain ⟨ay, capy, rfl⟩ := own_slice hoy; have HB9 := Lib.hid (HB8.out.trans (hb.mono HB8.out.size)); have J9 := Lib.hid (J1.out.below HB9.out); have HY9 := Lib.hid (Ints.of_own hoy HTu.out.wf); clear hoy hb)
          | (at_builtin; refine wpList_append_sl rfl _ _ _ rfl (w.heap.size + 1) 5 (.int .u8 0) 1 1 Tryz.underlying24 info_u8 rfl (by decide) _ all0.length _ rfl J9.out.own (.slice ay th.length capy) th.length (th.map (Value.int .u8)) rfl (by simp) HY9.out.1 (ints_one _ _) (by unfold maxLen; omega) (by omega) J9.out.sh.size ?_; intro v10 w10 hown hgrow hvb; have HO10 := Lib.hid hown; have H10 := Lib.hid (J9.out.sh.step ((Below.refl (w.heap.size + 1) w9).grown hgrow J9.out.sh.size (fun k e => (J9.out.own.lt k e).1)) (Nat.le_refl _)); clear hown hgrow hvb))
        go_roundw
        case rel =>
          refine ⟨j + 1, by omega, by go_num, H10.out, ?_⟩
          have := HO10.out
          rw [HSn.out]
          simpa [Hid] using this
        case measure => simp [intOf]; omega

end Go.Proofs.YtcebcncpbedkmaaGreat
