/- The walk of the law 'CursorSubs': it returns true. Conditions: the arguments read as lists of bytes. -/
import Derived.Test.YtdljlcbjpfgmcaaSure02
namespace Go.Proofs.Ytdljlcbjpfgmcaa
open Go.RowKit

def subSt (bs : List Int) (m : Nat) : St := ⟨bs, m, 10002, 269, 0⟩

def subE (bs : List Int) (m : Nat) : St := ⟨bs, m, 10002, 269, 10002⟩
theorem subs_left (bs : List Int) (m : Nat) : (subSt bs m).left = bs.length - m := rfl
theorem subs_no {bs : List Int} {m n : Nat} (h : bs.length - m < n) : (subSt bs m).takes n = false ∧ (subSt bs m).bytes n = (subE bs m, []) := by
  refine ⟨?_, ?_⟩
  · simp [St.takes, subs_left]; intro _; omega
  · rw [bytes_short (by omega) rfl (by rw [subs_left]; omega), fail_first rfl]; rfl
theorem subs_yes {bs : List Int} {m n : Nat} (h : n ≤ bs.length - m) : (subSt bs m).takes n = true ∧ (subSt bs m).bytes n = (subSt bs (m + n), (bs.drop m).take n) := by
  refine ⟨?_, ?_⟩
  · simp [St.takes, subs_left]; exact ⟨rfl, by omega⟩
  · rw [bytes_fine rfl (by rw [subs_left]; omega)]; rfl
/-- The rest of a fresh cursor, and what a reading past it leaves. -/
theorem fresh_rest (zs : List Int) (sh od : Int) : (St.fresh zs sh od).bytes (St.fresh zs sh od).left = (⟨zs, zs.length, sh, od, 0⟩, zs) := by
  rw [bytes_fine rfl (Nat.le_refl _)]
  simp [St.fresh, St.left, St.rest]
theorem spent_num (zs : List Int) (sh od : Int) : (⟨zs, zs.length, sh, od, 0⟩ : St).num 1 = (⟨zs, zs.length, sh, od, sh⟩, 0) := by
  have e : getS [1] (St.rest ⟨zs, zs.length, sh, od, 0⟩) = ([], 1) := by
    simp only [St.rest, List.drop_length]; rfl
  rw [num_good (by omega) (by omega), row_short rfl (by rw [e]), fail_first rfl]
  rfl

set_option maxRecDepth 100000 in
set_option maxHeartbeats 4000000 in
theorem walk_CursorSubs (v1 : Value) (bs : List Int) (v2 : Value) (ps : List Int) (w : World) (h1 : Ints .u8 w v1 bs) (h2 : Ints .u8 w v2 ps) :
    Calls Try.prog 9 #[v1, v2] w fun e w' => e = .returned (.bool true) ∧ Below w.heap.size w w' := by
  have hle1 := h1.le
  have hle2 := h2.le
  have H1 := Lib.hid h1
  have U2 := Lib.hid h2.u8
  obtain ⟨a1, cap1, b1, off1, rfl, -⟩ := h1.open
  obtain ⟨a2, cap2, b2, off2, rfl, -, -, -, ha2, hc2⟩ := h2.open
  have A2 := Lib.hid ha2
  have C2 := Lib.hid hc2
  clear h1 h2 ha2 hc2
  by_cases g1 : 2000 < bs.length
  · go_enter Try.func9, Try.ntmps9
    go_wp2_with (go_at_call 33; (with_reducible refine (sure02 _).mono ?_); rintro e w' ⟨rfl, hb⟩)
    go_ret
    exact ⟨rfl, hb⟩
  by_cases g2 : 60 < ps.length
  · go_enter Try.func9, Try.ntmps9
    go_wp2_with (go_at_call 33; (with_reducible refine (sure02 _).mono ?_); rintro e w' ⟨rfl, hb⟩)
    go_ret
    exact ⟨rfl, hb⟩
  have HN := cur_new H1.out (by omega) 10002 269
  have HN := Lib.hid HN
  go_enter Try.func9, Try.ntmps9
  go_wp2_with (go_at_call 34; (with_reducible refine HN.out.mono ?_); rintro e w1 ⟨p, rfl, hc, hb⟩; have HO1 : Hid (On w w1 p (subSt bs 0)) := ⟨hb, hc⟩; clear hc hb)
  go_loopw [6, 7] (fun r i wr => ∃ (k m : Nat), k ≤ ps.length ∧ m ≤ bs.length ∧ i = .int .i64 k ∧ Hid (Ints .u8 w r (bs.drop m)) ∧ Hid (On w wr p (subSt bs m))) (fun _ i _ => ps.length - (intOf i).toNat)
  case atStart => exact ⟨0, 0, by omega, by omega, rfl, H1.out, HO1.out⟩
  case round =>
    obtain ⟨k, m, hk, hm, rfl, HR, HO⟩ := hrel
    obtain ⟨ar, capr, br, offr, rfl, -⟩ := HR.out.open
    by_cases hlt : k < ps.length
    · obtain rfl := A2.out (by omega)
      have hx := U2.out _ (getD_mem hlt)
      have hcell0 := (HO.out.1.cell (p := ⟨b2, off2 + k, none⟩) (by exact World.block_lt_of_cell? _ _ (C2.out k hlt))).trans (C2.out k hlt)
      obtain ⟨x, hxx, hcell⟩ := name_cell hcell0
      rw [← hxx] at hx
      clear hcell0 hxx
      go_wp2_with fail
      obtain ⟨n, hn⟩ : ∃ n : Nat, x % 9 = n := ⟨(x % 9).toNat, by omega⟩
      have hn8 : n ≤ 8 := by omega
      rw [hn]
      by_cases hno : bs.length - m < n
      · obtain ⟨ht, hb⟩ := subs_no hno
        refine (cur_sub HO.out.2 (show (10002 : Int) ≠ 0 by decide) n (wf_i64 (by omega) (by omega)) 527 528).mono ?_
        rintro e w2 hg
        obtain ⟨-, rfl, hc, hg⟩ | ⟨ht', -⟩ := hg
        · rw [hb] at hc
          have HO2 : Hid (On w w2 p (subE bs m)) := HO.out.step hc hg
          have HE := cur_err HO2.out.2
          rw [show (subE bs m).er = 10002 from rfl] at HE
          have HE := Lib.hid HE
          have HL := cur_left HO2.out.2
          rw [show (subE bs m).left = bs.length - m from rfl] at HL
          have HL := Lib.hid HL
          clear hc hg ht hb hn hcell hx
          go_wp2_with (first
            | (go_at_call 36; (with_reducible refine HE.out.mono ?_); rintro e w7 ⟨rfl, rfl⟩)
            | (go_at_call 37; (with_reducible refine HL.out.mono ?_); rintro e w7 ⟨rfl, q, rfl⟩; have H7 : Hid (On w (w2.drewN q) p (subE bs m)) := HO2.out.drew q)
            | (go_at_call 33; (with_reducible refine (sure02 _).mono ?_); rintro e w8 ⟨rfl, hb8⟩; have H8 : Hid (On w w8 p (subE bs m)) := H7.out.below hb8; clear hb8))
          go_ret
          exact ⟨rfl, H8.out.1⟩
        · rw [ht] at ht'; cases ht'
      · obtain ⟨ht, hb⟩ := subs_yes (bs := bs) (m := m) (n := n) (by omega)
        have HR' := HR.out
        obtain ⟨A, hsl, hcut⟩ := slice_upto Try.underlying28 info_u8 HR' (n : Int) n rfl (by rw [List.length_drop]; omega)
        obtain ⟨A', hsl', hcut'⟩ := slice_from Try.underlying28 info_u8 HR' (n : Int) n rfl (by rw [List.length_drop]; omega)
        rw [List.length_drop] at hsl hsl' hcut'
        rw [List.drop_drop] at hcut'
        have HCut := Lib.hid hcut
        have HCut' := Lib.hid hcut'
        refine (cur_sub HO.out.2 (show (10002 : Int) ≠ 0 by decide) n (wf_i64 (by omega) (by omega)) 527 528).mono ?_
        rintro e w2 hg
        obtain ⟨ht', -⟩ | ⟨-, wm, q, rfl, hc, hg, hbm, hq⟩ := hg
        · rw [ht] at ht'; cases ht'
        · rw [hb] at hc hq
          have HOm : Hid (On w wm p (subSt bs (m + n))) := HO.out.step hc hg
          have hzl : ((bs.drop m).take n).length = n := by rw [List.length_take, List.length_drop]; omega
          simp only [] at hq
          generalize hz : (bs.drop m).take n = zs at hq hzl HCut
          have HQ : Hid (On wm w2 q (St.fresh zs 527 528)) := ⟨hbm, hq⟩
          have HL := cur_left HQ.out.2
          rw [show (St.fresh zs 527 528).left = n from hzl] at HL
          have HL := Lib.hid HL
          have HZ := Lib.hid hzl
          have hc1 : ¬ (bs.length - m < n) := hno
          clear hc hg ht hb hcell hx hbm hq HR' hcut hcut' hz hzl
          go_wp2_with (first
            | (go_at_call 37; (with_reducible refine HL.out.mono ?_); rintro e w3 ⟨rfl, q3, rfl⟩; have HQ3 := cur_rest (HQ.out.2.drew q3) (show (527 : Int) ≠ 0 by decide); rw [fresh_rest] at HQ3; have HQ3 := Lib.hid HQ3)
            | (go_at_call 38; (with_reducible refine HQ3.out.mono ?_); rintro e w4 ⟨vx, rfl, ho4, hu4, hc4, hg4⟩; have HO4 := Lib.hid ho4; have HU4 := Lib.hid hu4; have HQ4 : Hid (On wm w4 q _) := (HQ.out.drew _).step hc4 hg4; have HN4 := cur_num HQ4.out.2 1 (by decide); rw [spent_num] at HN4; have HN4 := Lib.hid HN4; clear ho4 hu4 hc4 hg4)
            | (go_at_call 39; (with_reducible refine HN4.out.mono ?_); rintro e w5 ⟨rfl, hc5, hg5⟩; have HQ5 : Hid (On wm w5 q ⟨zs, zs.length, 527, 528, 527⟩) := HQ4.out.step hc5 hg5; have HO5 : Hid (On w w5 p (subSt bs (m + n))) := HOm.out.below HQ5.out.1; have HX5 : Hid (Ints .u8 w5 vx zs) := Ints.of_own (own_other HO4.out hg5 (fun k e => by injection e with e; subst e; exact HQ.out.2.lt)) HU4.out.wf; clear hc5 hg5))
          refine (ref_bytes _ _ zs zs _ HX5.out (HCut.out.below HO5.out.1)).mono ?_
          rintro e w6 ⟨rfl, hb6⟩
          rw [show decide (zs = zs) = true from decide_eq_true rfl]
          have HQ6 : Hid (On wm w6 q ⟨zs, zs.length, 527, 528, 527⟩) := HQ5.out.below hb6
          have HO6 : Hid (On w w6 p (subSt bs (m + n))) := HO5.out.below hb6
          have HE6 := cur_err HQ6.out.2
          have HE6 := Lib.hid HE6
          have HF6 := cur_err HO6.out.2
          rw [show (subSt bs (m + n)).er = 0 from rfl] at HF6
          have HF6 := Lib.hid HF6
          clear hb6
          go_wp2_with (first
            | (go_at_call 36; (with_reducible refine HE6.out.mono ?_); rintro e w7 ⟨rfl, rfl⟩)
            | (go_at_call 36; (with_reducible refine HF6.out.mono ?_); rintro e w7 ⟨rfl, rfl⟩))
          go_roundw
          case rel => exact ⟨k + 1, m + n, by omega, by omega, by go_num, HCut'.out, HO6.out⟩
          case measure => simp [intOf]; omega
    · obtain rfl : k = ps.length := by omega
      have HR2 : Hid (Ints .u8 w (.slice ar (bs.length - m) capr) (bs.drop m)) := by have := HR.out; rw [List.length_drop] at this; exact this
      have HR1 := cur_rest HO.out.2 (show (10002 : Int) ≠ 0 by decide)
      rw [subs_left, (subs_yes (bs := bs) (m := m) (Nat.le_refl _)).2] at HR1
      have HR1 := Lib.hid HR1
      have hfull : (bs.drop m).take (bs.length - m) = bs.drop m := by rw [List.take_of_length_le (by simp)]
      have HFu := Lib.hid hfull
      clear hfull
      go_wp2_with (go_at_call 38; (with_reducible refine HR1.out.mono ?_); rintro e w2 hg2; obtain ⟨vx, rfl, hi2, hc2, hg2⟩ := hg2.ints; rw [HFu.out] at hi2; have HO2 : Hid (On w w2 p (subSt bs (m + (bs.length - m)))) := HO.out.step hc2 hg2; have HX2 := Lib.hid hi2; clear hi2 hc2 hg2)
      refine (ref_bytes _ _ (bs.drop m) (bs.drop m) _ HX2.out (HR2.out.below HO2.out.1)).mono ?_
      rintro e w6 ⟨rfl, hb6⟩
      rw [show decide (bs.drop m = bs.drop m) = true from decide_eq_true rfl]
      have HO6 := Lib.hid (HO2.out.below hb6)
      clear hb6
      go_wp2_with (go_at_call 33; (with_reducible refine (sure02 _).mono ?_); rintro e w8 ⟨rfl, hb8⟩; have H8 := Lib.hid (HO6.out.below hb8); clear hb8)
      go_ret
      exact ⟨rfl, H8.out.1⟩
end Go.Proofs.Ytdljlcbjpfgmcaa
