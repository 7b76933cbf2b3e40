/- The buffer: the walks of Hold, Fill and Even, and what none answers. Conditions: the receiver is a buffer that New has made, or nil; Fill: at a place that is held, of a number that fits. -/
import Derived.Test.YtdljlcbjpfgmcaaBufA
import Derived.Test.YtdljlcbjpfgmcaaCurD
import Derived.Laws.CopyOwn
namespace Go.Proofs.Ytdljlcbjpfgmcaa
open Go.RowKit Go.Maps

def keyI (n : Int) : Lit := .int .i64 n
def Bf.hold (s : Bf) (width : Nat) : Bf :=
  { s with bs := s.bs ++ List.replicate width 0, held := s.held.put (keyI s.bs.length) (.lit (.int .i64 width)), cnt := s.cnt + 1 }
def Bf.fill (s : Bf) (at_ width : Nat) (n : Int) : Bf :=
  { s with bs := s.bs.take at_ ++ (be width n ++ s.bs.drop (at_ + width)), held := s.held.del (keyI at_) }
def Bf.even (s : Bf) (step : Nat) : Bf := s.bytes (List.replicate ((step - s.bs.length % step) % step) 0)

theorem key_ok {n : Int} (h : (Lit.int .i64 n).wf = true) : keyOf Try.prog 3 (.int .i64 n) = some (keyI n) := keyOf_int_mk Try.underlying3 h
theorem law_int : Keyed Try.prog 3 := int_keyed Try.underlying3
theorem zero_int (w : World) : (zeroValue 3).run Try.prog w = .ok (.int .i64 0) w := by kernel_rfl

theorem u8_zeros (n : Nat) : U8 (List.replicate n 0) := fun z hz => by rw [List.mem_replicate] at hz; omega
theorem map_zeros (n : Nat) : (List.replicate n (0 : Int)).map (Value.int .u8) = List.replicate n (Value.int .u8 0) := by simp

/-- A place that is held, from now on. -/
theorem Buf.put {L : Nat} {w w' : World} {p m : Nat} {g : Option Nat} {s : Bf} {n : Nat} {kl : Lit} {d : DataW Unit} (h : Buf L w p m g s) (hm : w'.ownsMap Try.prog 3 (plainElem Try.prog 3) m (n + 1) (s.held.put kl d)) (hn : n ≤ s.cnt) (hg : w.grownBy w' (some m)) :
    Buf L w' p m g { s with held := s.held.put kl d, cnt := s.cnt + 1 } := by
  have hl := h.lt
  obtain ⟨bv, n', h1, h2, h3, h4, h5, h6, h7, h8, h9⟩ := h
  refine ⟨bv, n + 1, (hg.block p hl (by intro e; injection e with e; exact h8.2.2 e)).trans h1, h2.kept hg (.inr ?_), h3, h4, h5, hm, by simp; omega, h8, fun k e => ⟨(h9 k e).1, (h9 k e).2.1, (h9 k e).2.2.1, Nat.lt_of_lt_of_le (h9 k e).2.2.2 hg.size⟩⟩
  rw [h3]
  intro e
  exact (h9 m e).2.1 rfl
theorem Buf.map {L : Nat} {w : World} {p m : Nat} {g : Option Nat} {s : Bf} (h : Buf L w p m g s) : ∃ n, w.ownsMap Try.prog 3 (plainElem Try.prog 3) m n s.held ∧ n ≤ s.cnt := by
  obtain ⟨bv, n, h1, h2, h3, h4, h5, h6, h7, -⟩ := h
  exact ⟨n, h6, h7⟩

set_option maxRecDepth 100000
set_option maxHeartbeats 4000000

/-- Hold, where there is room. -/
theorem buf_hold {L : Nat} {w : World} {p m : Nat} {g : Option Nat} {s : Bf} (h : Buf L w p m g s) {x : Nat} (hx : 1 ≤ x ∧ x ≤ 8) (he : s.er = 0) (hr : s.bs.length + x ≤ s.room) (hc : s.cnt < 1000000) :
    Calls Try.prog 52 #[.pointer (some ⟨p, 0, none⟩), .int .i64 x] w (GotB L w p m g (s.hold x) (.int .i64 s.bs.length)) := by
  have HW := Lib.hid (buf_wide_ok (w := w) (v := .pointer (some ⟨p, 0, none⟩)) (x := (x : Int)) (by omega))
  have HLen := Lib.hid (buf_len h)
  have HB := Lib.hid h
  have hk := h.okBs
  have HL : Hid (L ≤ w.heap.size) := Nat.le_trans (h.from p (.inl rfl)) (Nat.le_of_lt h.lt)
  have HK := Lib.hid (key_ok (n := (s.bs.length : Int)) (wf_i64 (by omega) (by omega)))
  have HV := Lib.hid (wf_i64 (n := (x : Int)) (by omega) (by omega))
  have hx8 := hx.2
  have hx1 := hx.1
  have hby : Hid (s.bytes (List.replicate x 0) = { s with bs := s.bs ++ List.replicate x 0 }) := bytes_b_fine he (by simp; omega)
  clear h hk
  go_enter Try.func52, Try.ntmps52
  go_wp2_with (first
    | (go_at_call 82; (with_reducible refine HW.out.mono ?_); rintro e1 w1 ⟨rfl, rfl⟩)
    | (go_at_call 51; (with_reducible refine HLen.out.mono ?_); rintro e1 w1 ⟨rfl, rfl⟩)
    | (at_make; refine wpList_makeN rfl _ _ _ rfl w.heap.size 5 (.int .u8 0) 1 Try.underlying28 info_u8 rfl .i64 .i64 _ _ x rfl rfl rfl rfl (by omega) (by unfold maxLen; omega) (Nat.le_refl _) ?_; intro w1 hown1 hb1; have HX1 : Hid (Ints .u8 w1 (.slice (some ⟨w.heap.size, 0, none⟩) x x) (List.replicate x 0)) := Ints.of_own (by rw [map_zeros]; exact hown1) (u8_zeros x).wf; have HB1 := Lib.hid hb1; have HBy := buf_bytes (HB.out.below hb1) HX1.out; rw [hby.out] at HBy; have HBy := Lib.hid HBy; clear hown1 hb1)
    | (go_at_call 49; (with_reducible refine HBy.out.mono ?_); rintro e1 w2 ⟨rfl, g1, hb2, ht2, hg2⟩; have HB2 := Lib.hid hb2; have HT2 := Lib.hid ((Turn.of_below HB1.out _).trans ht2 (fun _ _ => id)); have HG2 : Hid (∀ k, g1 = some k → g = some k ∨ w.heap.size ≤ k) := (fun k e => (hg2 k e).imp id (fun h => Nat.le_trans HB1.out.size h)); have HN2 := Lib.hid (buf_none hb2); obtain ⟨bv2, er2, her2, -, d0, d1, d2, d3, -⟩ := hb2.open; obtain rfl : er2 = 0 := (her2.trans he); have HM2 := Lib.hid hb2.map; clear hb2 ht2 hg2 her2)
    | (go_at_call 80; (with_reducible refine HN2.out.mono ?_); rintro e1 w3 ⟨rfl, rfl⟩)
    | (at_mapUpdate; obtain ⟨n2, hm2, hn2⟩ := HM2.out; refine wpList_mapUpdate_own _ rfl _ _ _ 113 rfl 3 3 law_int Try.underlying113 _ m n2 s.held rfl hm2 (by have hn2' : n2 ≤ s.cnt := hn2; unfold maxLen; omega) _ _ _ rfl rfl HK.out _ [] (plainElem_int Try.underlying3 HV.out) ?_; intro w4 hm4 hg4; have HB4 : Hid (Buf L w4 p m g1 (s.hold x)) := HB2.out.put hm4 hn2 hg4; have HT4 : Hid (Turn w w4 (foot p m g)) := HT2.out.trans (Turn.of_grown hg4 (fun k e _ => .inr (.inl (by injection e with e; exact e.symm)))) (S' := foot p m g) (fun _ _ => id); clear hm4 hg4))
  go_ret
  exact ⟨rfl, g1, HB4.out, HT4.out, HG2.out⟩

theorem slice_at {g o len cap : Nat} (l : Nat) (h1 : l < len) (h2 : len ≤ cap) (wx : World) :
    (Instr.slice 28 (.slice (some ⟨g, o, none⟩) len cap) (some (.int .i64 (l : Int))) none none).run Try.prog wx = .ok (.slice (some ⟨g, o + l, none⟩) (len - l) (cap - l)) wx := by
  have he : Try.prog.elem 28 = 5 := by simp [Program.elem, Try.underlying28]
  rw [run_slice_l wx 28 (some ⟨g, o, none⟩) len cap (by rw [he]; exact Try.underlying28) .i64 l (by omega) (by omega), he, run_sizeOf info_u8]
  simp [Result.andThen, sliced, add_at, show ¬ cap = l by omega]

theorem cell_heap {w : World} {g : Nat} {cs : Array Value} {t : TypeId} {fr : Nat × Nat} (h : w.heap[g]? = some (.cells cs t fr)) (i : Nat) : w.cell? ⟨g, i, none⟩ = cs[i]? := by
  simp only [World.cell?, h]
  rfl
theorem take_mid {xs ys : List Value} {a n k : Nat} (h1 : a + ys.length ≤ n) (h2 : n ≤ xs.length) (hk : k = n) : (xs.take a ++ (ys ++ xs.drop (a + ys.length))).take k = (xs.take n).take a ++ (ys ++ (xs.take n).drop (a + ys.length)) := by
  subst hk
  rw [List.take_append, List.length_take, Nat.min_eq_left (by omega), List.take_append, List.take_take, List.take_take, List.take_of_length_le (l := ys) (by omega), List.drop_take]
  rw [show min k a = a by omega, show min a k = a by omega, show k - a - ys.length = k - (a + ys.length) by omega]

/-- Fill, where it is held and fits. -/
theorem buf_fill {L : Nat} {w : World} {p m : Nat} {g : Option Nat} {s : Bf} (h : Buf L w p m g s) {at_ x : Nat} {n : Int} (he : s.er = 0) (hat : s.held.atKey (keyI at_) (.lit (.int .i64 0)) = .lit (.int .i64 (x : Int))) (hhas : Maps.has s.held (keyI at_) = true) (hx : 1 ≤ x ∧ x ≤ 8) (hin : at_ + x ≤ s.bs.length) (hn : 0 ≤ n ∧ n < 18446744073709551616) (hf : fitsW n x = true) :
    Calls Try.prog 53 #[.pointer (some ⟨p, 0, none⟩), .int .i64 at_, .int .u64 n] w (GotB L w p m g (s.fill at_ x n) (.tuple #[])) := by
  have HN := Lib.hid (buf_none h)
  have hk := h.okBs
  have hl := h.lt
  have hmlt := h.mlt
  have HAt := Lib.hid hat
  have HHas := Lib.hid hhas
  have HK := Lib.hid (key_ok (n := (at_ : Int)) (wf_i64 (by omega) (by omega)))
  have hS : putS [(x : Int)] [n] = some (be x n) := by
    have hr : RightS [(x : Int)] = true := by simp [RightS, okW]; omega
    simp [putS, hr, cntL, putL, show ¬ (x : Int) < 0 by omega, show 0 < x by omega, hf]
  have HPt : ∀ (w : World) (v1 v2 : Value), Ints .i64 w v1 [(x : Int)] → Ints .u64 w v2 [n] → Hid (Calls Try.prog 23 #[v1, v2] w (fun e w' => ∃ v, e = .returned (.tuple #[v, .bool true]) ∧ Ints .u8 w' v (be x n) ∧ Below w.heap.size w w')) := fun w v1 v2 i1 i2 => by
    have := row_put_i v1 v2 [(x : Int)] [n] w i1 i2
    unfold PutI at this
    rw [hS] at this
    exact this
  have H1 : Ints .i64 ((w.alloc (.cells #[.int .i64 x] 3)).alloc (.cells #[.int .u64 n] 38)) (.slice (some ⟨w.heap.size, 0, none⟩) 1 1) [(x : Int)] := (Ints.lit .i64 w 3 [(x : Int)] _ rfl (by simp) (by intro z hz; simp at hz; subst hz; exact wf_i64 (by omega) (by omega))).alloc _
  have H2 : Ints .u64 ((w.alloc (.cells #[.int .i64 x] 3)).alloc (.cells #[.int .u64 n] 38)) (.slice (some ⟨w.heap.size + 1, 0, none⟩) 1 1) [n] := Ints.lit .u64 (w.alloc (.cells #[.int .i64 x] 3)) 38 [n] _ (by simp) (by simp) (U64.wf (by intro z hz; simp at hz; subst hz; exact hn))
  have HB0 : Hid (Below w.heap.size w ((w.alloc (.cells #[.int .i64 x] 3)).alloc (.cells #[.int .u64 n] 38))) := ((Below.refl _ _).alloc (Nat.le_refl _) _).alloc (by simp) _
  have HP0 := HPt _ _ _ H1 H2
  have hbe : (be x n).length = x := be_length x n
  have hbu : U8 (be x n) := be_u8 x n
  obtain ⟨bv, nn, q1, q2, q3, q4, q5, q6, q7, q8, q9⟩ := h
  have HM := Lib.hid q6
  have c0 : w.cell? ⟨p, 0, none⟩ = some bv := by simp [World.cell?, q1]
  have c2 : w.cell? ⟨p, 2, none⟩ = some (.map (some m)) := by simp [World.cell?, q1]
  have c3 : w.cell? ⟨p, 3, none⟩ = some (.int .i64 0) := by simp [World.cell?, q1, he]
  obtain ⟨ql, ⟨rfl, e0⟩ | ⟨gg, cap, cur, rfl, r1, r2, r3, r4, r5, r6⟩⟩ := q2
  · omega
  obtain rfl : some gg = g := q3
  obtain ⟨s1, s2, s3, s4⟩ := q9 gg rfl
  have r6' := r6
  rw [Nat.mul_one] at r5 r6
  have hslice := fun wx => slice_at (g := gg) (o := 0) (len := s.bs.length) (cap := cap) at_ (by omega) r3 wx
  rw [Nat.zero_add] at hslice
  have HQ := Lib.hid q1
  have HR2 := Lib.hid r2
  have hlen1 : (at_ : Int) + (x : Int) ≤ (s.bs.length : Int) := by omega
  clear hat hhas hf hS HPt H1 H2 q6 hk
  go_enter Try.func53, Try.ntmps53
  go_wp2_with (first
    | (go_at_call 80; (with_reducible refine HN.out.mono ?_); rintro e1 w1 ⟨rfl, rfl⟩)
    | (at_lookup; refine wpList_lookup_own_ok_int _ rfl _ _ 113 rfl 3 3 .i64 law_int Try.underlying113 Try.underlying3 (zero_int _) m nn s.held rfl HM.out _ _ rfl HK.out ?_; intro c hat hwc; obtain rfl : c = (x : Int) := (by rw [HAt.out] at hat; injection hat with hat; injection hat with _ hat; exact hat.symm); rw [HHas.out]; clear hat hwc))
  (with_reducible refine HP0.out.mono ?_)
  rintro e w1 ⟨vx, rfl, hvx, hb⟩
  have HX1 := Lib.hid hvx
  have HB1 := Lib.hid (HB0.out.trans (hb.mono HB0.out.size))
  have d0 : w1.cell? ⟨p, 0, none⟩ = some (.slice (some ⟨gg, 0, none⟩) s.bs.length cap) := (HB1.out.cell (p := ⟨p, 0, none⟩) hl).trans c0
  have HQ1 := Lib.hid ((HB1.out.block p hl).trans HQ.out)
  have HG1 := Lib.hid ((HB1.out.block gg s4).trans HR2.out)
  have HM1 : Hid (w1.ownsMap Try.prog 3 (plainElem Try.prog 3) m nn s.held) := HM.out.kept (grown_of_below HB1.out none) (by simp)
  obtain ⟨ax, capx, bx, ox, rfl, -, -, -, hax, hcx⟩ := hvx.open
  obtain rfl := hax (by rw [hbe]; omega)
  rw [hbe] at hcx ⊢
  have hsrc : ∀ j u, ((be x n).map (Value.int .u8))[j]? = some u → w1.cell? ((⟨bx, ox, none⟩ : Addr).add j) = some u := fun j u hu => by
    have hj := (List.getElem?_eq_some_iff.1 hu).1
    simp at hj
    rw [hbe] at hj
    rw [add_at, hcx j hj]
    obtain ⟨z, hz, rfl⟩ : ∃ z, (be x n)[j]? = some z ∧ Value.int .u8 z = u := by simpa using hu
    simp [List.getD, hz]
  have HSrc := Lib.hid hsrc
  have hcl : ((be x n).map (Value.int .u8)).length = x := by simp [hbe]
  have HCl := Lib.hid hcl
  clear hb hvx hax hcx hsrc hcl
  go_wp2_with (first
    | (refine wpList_copy_own rfl (.tmp 49) (.tmp 50) 28 28 rfl 5 Try.underlying28 (by kernel_rfl) gg at_ (s.bs.length - at_) (cap - at_) ⟨bx, ox, none⟩ x capx rfl rfl cur 5 HG1.out ((be x n).map (Value.int .u8)) (by rw [HCl.out]; exact (Nat.min_eq_left (by omega)).symm) HSrc.out (by rw [HCl.out]; omega) (ints_one _ _) ?_; rw [HCl.out]; have HG2 := Lib.hid (setRow_heap w1 gg cur (cur.toList.take at_ ++ ((be x n).map (Value.int .u8) ++ cur.toList.drop (at_ + x))).toArray _ _ HG1.out); have HQ2 := Lib.hid ((setRow_other w1 gg p (cur.toList.take at_ ++ ((be x n).map (Value.int .u8) ++ cur.toList.drop (at_ + x))).toArray (fun e => s1 e.symm)).trans HQ1.out); have hgr : w1.grownBy (w1.setRow gg (cur.toList.take at_ ++ ((be x n).map (Value.int .u8) ++ cur.toList.drop (at_ + x))).toArray) (some gg) := ⟨rfl, rfl, rfl, (by rw [setRow_size]; exact Nat.le_refl _), fun k _ hk => setRow_other w1 gg k _ (fun e => hk (by rw [e]))⟩; have HM2 := Lib.hid (HM1.out.kept hgr (fun e => s2 (by injection e with e; exact e.symm))); have HGr := Lib.hid hgr; clear hgr; generalize w1.setRow gg (cur.toList.take at_ ++ ((be x n).map (Value.int .u8) ++ cur.toList.drop (at_ + x))).toArray = w2 at HG2 HQ2 HM2 HGr ⊢; have d2 := cell_heap HQ2.out 2)
    | (at_delete; refine wpList_delete_own _ rfl _ _ 113 3 rfl 3 law_int Try.underlying113 (plainElem Try.prog 3) m nn s.held rfl HM2.out _ _ rfl HK.out ?_; intro w3 hm3 ht3; have HM3 := Lib.hid hm3; have HT3 := Lib.hid ht3.grown; clear hm3 ht3))
  go_end0
  have hP3 := (HT3.out.block p (Array.getElem?_eq_some_iff.1 HQ2.out).1 (by intro e; injection e with e; exact q8.2.2 e)).trans HQ2.out
  have hG3 := (HT3.out.block gg (Array.getElem?_eq_some_iff.1 HG2.out).1 (by intro e; injection e with e; exact s2 e)).trans HG2.out
  have hfl : (s.bs.take at_ ++ (be x n ++ s.bs.drop (at_ + x))).length = s.bs.length := by simp [hbe]; omega
  have hsz : w.heap.size ≤ w3.heap.size := Nat.le_trans HB1.out.size (Nat.le_trans HGr.out.size HT3.out.size)
  refine ⟨rfl, some gg, ⟨_, nn, hP3, ?_, rfl, ?_, ⟨by show (s.bs.take at_ ++ (be x n ++ s.bs.drop (at_ + x))).length ≤ _; rw [hfl]; exact q5.1, q5.2⟩, HM3.out, q7, q8, fun k e => by injection e with e; subst e; exact ⟨s1, s2, s3, Nat.lt_of_lt_of_le s4 hsz⟩⟩, ?_, fun k e => .inl e⟩
  · show w3.ownsRow L 5 1 (.slice (some ⟨gg, 0, none⟩) s.bs.length cap) (s.bs.take at_ ++ (be x n ++ s.bs.drop (at_ + x))).length ((s.bs.take at_ ++ (be x n ++ s.bs.drop (at_ + x))).map (Value.int .u8))
    rw [hfl]
    refine ⟨by simp [hbe]; omega, .inr ⟨gg, cap, _, rfl, r1, hG3, r3, r4, ?_, ?_⟩⟩
    · simp [hbe]; omega
    · have hc := take_mid (xs := cur.toList) (ys := (be x n).map (Value.int .u8)) (a := at_) (n := s.bs.length) (k := s.bs.length * 1) (by simp [hbe]; omega) (by simp; omega) (by omega)
      have hl2 : ((be x n).map (Value.int .u8)).length = x := by simp [hbe]
      rw [hl2, r6] at hc
      simpa using hc
  · exact U8.append (fun z hz => q4 z (List.mem_of_mem_take hz)) (U8.append hbu (fun z hz => q4 z (List.mem_of_mem_drop hz)))
  · exact ((Turn.of_below HB1.out (foot p m (some gg))).trans (S' := foot p m (some gg)) (Turn.of_grown HGr.out (fun k e _ => by injection e with e; subst e; exact .inr (.inr rfl))) (fun _ _ => id)).trans (S' := foot p m (some gg)) (Turn.of_grown HT3.out (fun k e _ => by injection e with e; subst e; exact .inr (.inl rfl))) (fun _ _ => id)
end Go.Proofs.Ytdljlcbjpfgmcaa
