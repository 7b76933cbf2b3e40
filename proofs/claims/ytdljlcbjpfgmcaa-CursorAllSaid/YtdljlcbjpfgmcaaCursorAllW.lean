/- The walk of the law 'CursorAll': it returns true. Conditions: the arguments read as a list of bytes and one of ints. -/
import Derived.Test.YtdljlcbjpfgmcaaSure02
namespace Go.Proofs.Ytdljlcbjpfgmcaa
open Go.RowKit

def allSt (bs : List Int) (m : Nat) (er : Int) : St := ⟨bs, m, 10002, 269, er⟩
theorem all_left (bs : List Int) (m : Nat) (er : Int) : (allSt bs m er).left = bs.length - m := rfl

/-- What a reading of n bytes does. -/
theorem all_step {bs : List Int} {m : Nat} (er n : Int) (hm : m ≤ bs.length) : ∃ m' er' x, (allSt bs m er).bytes n = (allSt bs m' er', x) ∧ m ≤ m' ∧ m' ≤ bs.length ∧ x.length = m' - m ∧ bs.take m ++ x = bs.take m' ∧
    ((er ≠ 0 ∧ er' = er ∧ m' = m) ∨ (er = 0 ∧ er' = 0 ∧ 0 ≤ n ∧ n ≤ ((bs.length - m : Nat) : Int)) ∨ (er = 0 ∧ er' ≠ 0 ∧ n < 0) ∨ (er = 0 ∧ er' ≠ 0 ∧ 0 ≤ n ∧ ((bs.length - m : Nat) : Int) < n)) := by
  by_cases h0 : er = 0
  · subst h0
    by_cases hn : n < 0
    · exact ⟨m, 10001, [], by rw [bytes_neg hn, fail_first rfl]; rfl, Nat.le_refl _, hm, by simp, by simp, .inr (.inr (.inl ⟨rfl, by decide, hn⟩))⟩
    · obtain ⟨k, rfl⟩ : ∃ k : Nat, n = k := ⟨n.toNat, by omega⟩
      by_cases hk : bs.length - m < k
      · exact ⟨m, 10002, [], by rw [bytes_short (by omega) rfl (by rw [all_left]; omega), fail_first rfl]; rfl, Nat.le_refl _, hm, by simp, by simp, .inr (.inr (.inr ⟨rfl, by decide, by omega, by omega⟩))⟩
      · refine ⟨m + k, 0, (bs.drop m).take k, by rw [bytes_fine rfl (by rw [all_left]; omega)]; rfl, by omega, by omega, by rw [List.length_take, List.length_drop]; omega, ?_, .inr (.inl ⟨rfl, rfl, by omega, by omega⟩)⟩
        rw [List.take_add]
  · refine ⟨m, er, [], ?_, Nat.le_refl _, hm, by simp, by simp, .inl ⟨h0, rfl, rfl⟩⟩
    by_cases hn : n < 0
    · rw [bytes_neg hn, fail_busy (show (allSt bs m er).er ≠ 0 from h0)]
    · rw [bytes_busy (by omega) (show (allSt bs m er).er ≠ 0 from h0)]

theorem On.row {w w1 w2 : World} {E p : Nat} {s : St} {row : Option Nat} (h : On w E w1 p s) (hg : w1.grownBy w2 row) (hr : ∀ k, row = some k → E ≤ k) : On w E w2 p s :=
  ⟨h.1.grown hg h.1.size (fun k e => Nat.le_trans (Nat.le_trans h.2.from (Nat.le_of_lt h.2.upto)) (hr k e)), h.2.grown hg (fun k e => .inr (hr k e))⟩

set_option maxRecDepth 100000 in
set_option maxHeartbeats 4000000 in
theorem walk_CursorAll (v1 : Value) (bs : List Int) (v2 : Value) (ps : List Int) (w : World) (h1 : Ints .u8 w v1 bs) (h2 : Ints .i64 w v2 ps) :
    Calls Try.prog 10 #[v1, v2] w fun e w' => e = .returned (.bool true) ∧ Below w.heap.size w w' := by
  have hle1 := h1.le
  have hle2 := h2.le
  have H1 := Lib.hid h1
  have U2 := Lib.hid h2.2
  obtain ⟨a1, cap1, b1, off1, rfl, -⟩ := h1.open
  obtain ⟨a2, cap2, b2, off2, rfl, -, -, -, ha2, hc2⟩ := h2.open
  have A2 := Lib.hid ha2
  have C2 := Lib.hid hc2
  clear h1 h2 ha2 hc2
  by_cases g1 : 2000 < bs.length
  · go_enter Try.func10, Try.ntmps10
    go_wp2_with (go_at_call 33; (with_reducible refine (sure02 _).mono ?_); rintro e w' ⟨rfl, hb⟩)
    go_ret
    exact ⟨rfl, hb⟩
  by_cases g2 : 60 < ps.length
  · go_enter Try.func10, Try.ntmps10
    go_wp2_with (go_at_call 33; (with_reducible refine (sure02 _).mono ?_); rintro e w' ⟨rfl, hb⟩)
    go_ret
    exact ⟨rfl, hb⟩
  have HN0 := cur_new H1.out (by omega) 10002 269
  have HN := Lib.hid HN0
  clear HN0
  go_enter Try.func10, Try.ntmps10
  go_wp2_with (go_at_call 34; (with_reducible refine HN.out.mono ?_); rintro e w1 ⟨p, rfl, hc, hb⟩; have HO1 : Hid (On w w1.heap.size w1 p (allSt bs 0 0)) := ⟨hb, hc⟩; clear hc hb)
  go_loopw [6, 7] (fun r i wr => ∃ (k m : Nat) (er : Int), k ≤ ps.length ∧ m ≤ bs.length ∧ i = .int .i64 k ∧ Hid (wr.ownsRow w1.heap.size 5 1 r m ((bs.take m).map (Value.int .u8))) ∧ Hid (On w w1.heap.size wr p (allSt bs m er)) ∧ Hid (w1.heap.size ≤ wr.heap.size)) (fun _ i _ => ps.length - (intOf i).toNat)
  case atStart => exact ⟨0, 0, 0, by omega, by omega, rfl, World.ownsRow_nil _ _ _ _, HO1.out, Nat.le_refl _⟩
  case round =>
    obtain ⟨k, m, er, hk, hm, rfl, HA, HO, HS⟩ := hrel
    obtain ⟨ar, capr, rfl⟩ := own_slice HA.out
    by_cases hlt : k < ps.length
    · obtain rfl := A2.out (by omega)
      have hcell0 := (HO.out.1.cell (p := ⟨b2, off2 + k, none⟩) (by exact World.block_lt_of_cell? _ _ (C2.out k hlt))).trans (C2.out k hlt)
      obtain ⟨n, hnn, hcell⟩ := name_cell hcell0
      have HNc : Hid (w.cell? ⟨b2, off2 + k, none⟩ = some (.int .i64 n)) := by rw [hnn]; exact C2.out k hlt
      have HNw : Hid ((Lit.int .i64 n).wf = true) := by rw [hnn]; exact U2.out _ (getD_mem hlt)
      obtain ⟨m', er', x, hby, hmm, hm', hxl, hta, hcases⟩ := all_step (bs := bs) (m := m) er n hm
      have HCa := Lib.hid hcases
      have HTa := Lib.hid hta
      have HXl := Lib.hid hxl
      have HE := cur_err HO.out.2
      rw [show (allSt bs m er).er = er from rfl] at HE
      have HE := Lib.hid HE
      have HL := cur_left HO.out.2
      rw [all_left] at HL
      have HL := Lib.hid HL
      have HB := fun q => cur_bytes (HO.out.2.drew q) (show (10002 : Int) ≠ 0 by decide) n HNw.out
      rw [hby] at HB
      have HB := Lib.hid HB
      obtain ⟨A, hsl, hcut⟩ := slice_upto Try.underlying28 info_u8 H1.out (m' : Int) m' rfl hm'
      have HCut := Lib.hid hcut
      clear hcases hta hxl hcell0 hnn hby hcut
      go_wp2_with (first
        | (go_at_call 36; (with_reducible refine HE.out.mono ?_); rintro e w2 ⟨rfl, rfl⟩)
        | (go_at_call 37; (with_reducible refine HL.out.mono ?_); rintro e w2 ⟨rfl, q, rfl⟩)
        | (go_at_call 40; (with_reducible refine (HB.out _).mono ?_); rintro e w3 ⟨vx, rfl, ho3, hu3, hc3, hg3⟩; have HX3 := Lib.hid (Ints.of_own ho3 hu3.wf); have HO3 : Hid (On w w1.heap.size w3 p (allSt bs m' er')) := (HO.out.drew _).step hc3 hg3; have HA3 := Lib.hid (own_other (own_below HA.out (below_drewN (Below.refl _ _) _)) hg3 (fun k e => by injection e with e; subst e; exact HO.out.2.upto)); obtain ⟨ax, capx, rfl⟩ := own_slice ho3; have HS3 : Hid (w1.heap.size ≤ w3.heap.size) := Nat.le_trans HS.out hg3.size; clear ho3 hu3 hc3 hg3)
        | (at_builtin; refine wpList_append_sl rfl (.tmp 40) (.tmp 41) _ rfl w1.heap.size 5 (.int .u8 0) 1 1 Try.underlying28 info_u8 rfl (by decide) (.slice ar m capr) m _ rfl HA3.out (.slice ax x.length capx) x.length (x.map (Value.int .u8)) rfl (by simp) HX3.out.1 (ints_one _ _) (by have := HXl.out; unfold maxLen; omega) (by have := HXl.out; omega) HS3.out ?_; intro v4 w4 hown4 hgrow4 _; rw [← List.map_append, HTa.out, show m + x.length = m' by have := HXl.out; omega] at hown4; obtain ⟨a4, cap4, rfl⟩ := own_slice hown4; have HA4 := Lib.hid hown4; have HO4 : Hid (On w w1.heap.size w4 p (allSt bs m' er')) := HO3.out.row hgrow4 (fun k e => (HA3.out.lt k e).1); have HS4 : Hid (w1.heap.size ≤ w4.heap.size) := Nat.le_trans HS3.out hgrow4.size; have HL4 := cur_left HO4.out.2; rw [all_left, show ((bs.length - m' : Nat) : Int) = (bs.length : Int) - (m' : Int) by omega] at HL4; have HL4 := Lib.hid HL4; have HP4 : Hid (Calls Try.prog 41 #[.pointer (some ⟨p, 0, none⟩)] w4 fun e w' => e = .returned (.int .i64 (m' : Int)) ∧ w4 = w') := cur_at HO4.out.2; clear hown4 hgrow4)
        | (go_at_call 41; (with_reducible refine HP4.out.mono ?_); rintro e w5 ⟨rfl, rfl⟩)
        | (go_at_call 37; (with_reducible refine HL4.out.mono ?_); rintro e w5 ⟨rfl, q4, rfl⟩; have HX5 : Hid (Ints .u8 (w4.drewN q4) (.slice a4 m' cap4) (bs.take m')) := Ints.of_own HA4.out (fun z hz => H1.out.2 z (List.mem_of_mem_take hz)); have HO5 := Lib.hid (HO4.out.drew q4); have HC5 := Lib.hid (HCut.out.below HO5.out.1))
        | (go_at_call 25; (with_reducible refine (ref_bytes _ _ _ _ _ HX5.out HC5.out).mono ?_); rintro e w6 ⟨rfl, hb6⟩; rw [show decide (bs.take m' = bs.take m') = true from decide_eq_true rfl]; have HO6 := Lib.hid (HO5.out.below hb6); have HS6 : Hid (w1.heap.size ≤ w6.heap.size) := Nat.le_trans HS4.out hb6.size; have HA6 := Lib.hid (own_below (own_below HA4.out (below_drewN (Below.refl _ _) q4)) hb6); clear hb6))
      have hcell6 := (HO6.out.1.cell (p := ⟨b2, off2 + k, none⟩) (by exact World.block_lt_of_cell? _ _ HNc.out)).trans HNc.out
      have HE6 : Hid (∀ q, Calls Try.prog 36 #[.pointer (some ⟨p, 0, none⟩)] (w6.drewN q) fun e w' => e = .returned (.int .i64 er') ∧ w6.drewN q = w') := fun q => cur_err (HO6.out.2.drew q)
      clear hcell
      have hm6 := hm'
      rcases HCa.out with ⟨c1, rfl, c3⟩ | ⟨rfl, rfl, c3, c4⟩ | ⟨rfl, c2, c3⟩ | ⟨rfl, c2, c3, c4⟩
      · have e1 : (er' != 0) = true := by simpa using c1
        have e2 : (er' == 0) = false := by simpa using c1
        obtain rfl : x = [] := List.eq_nil_of_length_eq_zero (by have := HXl.out; omega)
        clear c1
        go_wp2_with (go_quiet ((go_at_call 36; exact quiet_eq (HE6.out _))))
        go_roundw
        case rel => exact ⟨k + 1, m', er', by omega, hm6, by go_num, HA6.out, HO6.out.drew _, HS6.out⟩
        case measure => simp [intOf]; omega
      · go_wp2_with (go_quiet ((go_at_call 36; exact quiet_eq (HE6.out _))))
        go_roundw
        case rel => exact ⟨k + 1, m', 0, by omega, hm6, by go_num, HA6.out, HO6.out.drew _, HS6.out⟩
        case measure => simp [intOf]; omega
      · have e2 : (er' == 0) = false := by simpa using c2
        have e3 : decide (0 ≤ n) = false := decide_eq_false (by omega)
        clear c2
        go_wp2_with (go_quiet ((go_at_call 36; exact quiet_eq (HE6.out _))))
        go_roundw
        case rel => exact ⟨k + 1, m', er', by omega, hm6, by go_num, HA6.out, HO6.out.drew _, HS6.out⟩
        case measure => simp [intOf]; omega
      · have e2 : (er' == 0) = false := by simpa using c2
        clear c2
        go_wp2_with (go_quiet ((go_at_call 36; exact quiet_eq (HE6.out _))))
        go_roundw
        case rel => exact ⟨k + 1, m', er', by omega, hm6, by go_num, HA6.out, HO6.out.drew _, HS6.out⟩
        case measure => simp [intOf]; omega
    · obtain rfl : k = ps.length := by omega
      have HE := cur_err HO.out.2
      rw [show (allSt bs m er).er = er from rfl] at HE
      have HE := Lib.hid HE
      have HR := cur_rest HO.out.2 (show (10002 : Int) ≠ 0 by decide)
      rw [all_left] at HR
      by_cases her : er = 0
      · subst her
        have hby : (allSt bs m 0).bytes ((bs.length - m : Nat) : Int) = (allSt bs bs.length 0, bs.drop m) := by
          rw [bytes_fine rfl (by rw [all_left]; exact Nat.le_refl _)]
          simp only [allSt, St.rest]
          rw [show m + (bs.length - m) = bs.length by omega, List.take_of_length_le (by simp)]
        rw [hby] at HR
        have HR := Lib.hid HR
        have HTk : Hid (bs.take m ++ bs.drop m = bs) := List.take_append_drop m bs
        have HDl : Hid ((bs.drop m).length = bs.length - m) := List.length_drop ..
        clear hby
        go_wp2_with (first
          | (go_at_call 36; (with_reducible refine HE.out.mono ?_); rintro e w2 ⟨rfl, rfl⟩)
          | (go_at_call 38; (with_reducible refine HR.out.mono ?_); rintro e w3 ⟨vx, rfl, ho3, hu3, hc3, hg3⟩; rw [HDl.out] at ho3; have HX3 := Lib.hid (Ints.of_own ho3 hu3.wf); have HO3 : Hid (On w w1.heap.size w3 p (allSt bs bs.length 0)) := HO.out.step hc3 hg3; have HA3 := Lib.hid (own_other HA.out hg3 (fun k e => by injection e with e; subst e; exact HO.out.2.upto)); have HS3 : Hid (w1.heap.size ≤ w3.heap.size) := Nat.le_trans HS.out hg3.size; obtain ⟨ax, capx, rfl⟩ := own_slice ho3; clear ho3 hu3 hc3 hg3)
          | (at_builtin; refine wpList_append_sl rfl (.tmp 120) (.tmp 122) _ rfl w1.heap.size 5 (.int .u8 0) 1 1 Try.underlying28 info_u8 rfl (by decide) (.slice ar m capr) m _ rfl HA3.out (.slice ax (bs.length - m) capx) (bs.length - m) ((bs.drop m).map (Value.int .u8)) rfl (by simp) (by have := HX3.out.1; rw [List.length_drop] at this; exact this) (ints_one _ _) (by unfold maxLen; omega) (by omega) HS3.out ?_; intro v4 w4 hown4 hgrow4 _; rw [← List.map_append, HTk.out, show m + (bs.length - m) = bs.length by omega] at hown4; obtain ⟨a4, cap4, rfl⟩ := own_slice hown4; have HX4 : Hid (Ints .u8 w4 (.slice a4 bs.length cap4) bs) := Ints.of_own hown4 H1.out.2; have HO4 : Hid (On w w1.heap.size w4 p (allSt bs bs.length 0)) := HO3.out.row hgrow4 (fun k e => (HA3.out.lt k e).1); have HB4 := Lib.hid (H1.out.below HO4.out.1); clear hown4 hgrow4)
          | (go_at_call 25; (with_reducible refine (ref_bytes _ _ _ _ _ HX4.out HB4.out).mono ?_); rintro e w5 ⟨rfl, hb5⟩; rw [show decide (bs = bs) = true from decide_eq_true rfl]; have HO5 := Lib.hid (HO4.out.below hb5); have HL5 := cur_left HO5.out.2; rw [all_left, show ((bs.length - bs.length : Nat) : Int) = 0 by omega] at HL5; have HL5 := Lib.hid HL5; clear hb5)
          | (go_at_call 37; (with_reducible refine HL5.out.mono ?_); rintro e w6 ⟨rfl, q6, rfl⟩; have HO6 := Lib.hid (HO5.out.drew q6))
          | (go_at_call 33; (with_reducible refine (sure02 _).mono ?_); rintro e w8 ⟨rfl, hb8⟩; have H8 := Lib.hid (HO6.out.below hb8); clear hb8))
        go_ret
        exact ⟨rfl, H8.out.1⟩
      · have e1 : (er != 0) = true := by simpa using her
        have hby : (allSt bs m er).bytes ((bs.length - m : Nat) : Int) = (allSt bs m er, []) := bytes_busy (by omega) her
        rw [hby] at HR
        have HR := Lib.hid HR
        clear hby her
        go_wp2_with (first
          | (go_at_call 36; (with_reducible refine HE.out.mono ?_); rintro e w2 ⟨rfl, rfl⟩)
          | (go_at_call 38; (with_reducible refine HR.out.mono ?_); rintro e w3 ⟨vx, rfl, ho3, hu3, hc3, hg3⟩; have HO3 : Hid (On w w1.heap.size w3 p (allSt bs m er)) := HO.out.step hc3 hg3; obtain ⟨ax, capx, rfl⟩ := own_slice ho3; clear ho3 hu3 hc3 hg3)
          | (go_at_call 33; (with_reducible refine (sure02 _).mono ?_); rintro e w8 ⟨rfl, hb8⟩; have H8 := Lib.hid (HO3.out.below hb8); clear hb8))
        go_ret
        exact ⟨rfl, H8.out.1⟩
end Go.Proofs.Ytdljlcbjpfgmcaa
