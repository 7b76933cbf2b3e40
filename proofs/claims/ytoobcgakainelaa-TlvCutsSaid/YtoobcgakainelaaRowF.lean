/- The walk of the document's Get: it answers what the plain Lean says. Conditions: the arguments read as lists of numbers. -/
import Derived.Test.YtoobcgakainelaaRowE
namespace Go.Proofs.Ytoobcgakainelaa
open Go.RowKit

theorem take_drop_mid (bs : List Int) (S m : Nat) : (bs.take (S + m)).drop S = (bs.drop S).take m := by
  rw [List.drop_take]; congr 1; omega

theorem all_zero_step {zs : List Int} {j : Nat} (hj : j < zs.length) (h : (zs.take j).all (· == 0) = true) (h0 : zs.getD j 0 = 0) : (zs.take (j + 1)).all (· == 0) = true := by
  rw [take_snoc hj, List.all_append, h, h0]; rfl
theorem all_zero_not {zs : List Int} {j m : Nat} (hj : j < m) (hm : m ≤ zs.length) (h0 : zs.getD j 0 ≠ 0) : (zs.take m).all (· == 0) = false := by
  rw [← Bool.not_eq_true]; intro hh
  have hj' : j < (zs.take m).length := by rw [List.length_take]; omega
  have := List.all_eq_true.1 hh _ (getD_mem hj')
  have e : (zs.take m).getD j 0 = zs.getD j 0 := by simp [List.getD, hj]
  rw [e] at this
  exact h0 (by simpa using this)

set_option maxRecDepth 100000 in
set_option maxHeartbeats 800000 in
theorem ref_get (v1 v2 : Value) (ws bs : List Int) (w : World) (h1 : Ints .i64 w v1 ws) (h2 : Ints .u8 w v2 bs) :
    Calls Try.prog 51 #[v1, v2] w (GotS w ws bs) := by
  have R1 := Lib.hid (ref_right v1 ws w h1)
  have hble := h2.le
  obtain ⟨a, cap, b, off, rfl, -, -, -, ha, hc⟩ := h1.open
  have H1 := Lib.hid ha
  have H3 := Lib.hid hc
  have H2 := Lib.hid h2
  have hU := Lib.hid h2.u8
  obtain ⟨a2, cap2, b2, off2, rfl, -, -, -, ha2, hc2⟩ := h2.open
  have H4 := Lib.hid ha2
  have H5 := Lib.hid hc2
  clear ha hc h1 h2 ha2 hc2
  cases hr : RightS ws with
  | false =>
    rw [hr] at R1
    have HG : Hid (getS ws bs = ([], 2)) := getS_bad hr
    clear hr
    go_enter Try.func51, Try.ntmps51
    go_wp2_with (first | (go_at_call 75; refine R1.out.mono ?_; rintro e w' ⟨rfl, rfl⟩))
    go_ret2
    exact GotS.err HG.out (Below.refl _ _)
  | true =>
    rw [hr] at R1
    have hwl := right_len hr
    have hal := Lib.hid (right_all hr)
    have HRW := Lib.hid hr
    clear hr
    go_enter Try.func51, Try.ntmps51
    go_wp2_with (first | (go_at_call 75; refine R1.out.mono ?_; rintro e w' ⟨rfl, rfl⟩))
    go_loopw [4, 5, 6, 7, 8] (fun ov fv outv atv i wr => ∃ (k S : Nat) (acc : List Int), k ≤ ws.length ∧ S ≤ bs.length ∧ i = .int .i64 k ∧ atv = .int .i64 S ∧ ov = .slice none 0 0 ∧ fv = .int .i64 0 ∧ Hid (wr.ownsRow w.heap.size 76 1 outv acc.length (acc.map (Value.int .u64))) ∧ Hid (Below w.heap.size w wr) ∧ Hid (Getting ws bs k acc (bs.drop S))) (fun _ _ _ _ i _ => ws.length - (intOf i).toNat)
    case atStart => exact ⟨0, 0, [], by omega, by omega, rfl, rfl, rfl, rfl, World.ownsRow_nil _ _ _ _, Below.refl _ _, Getting.start ws bs⟩
    case round =>
      obtain ⟨k, S, acc, hk, hS, rfl, rfl, rfl, rfl, HA, HBB, HP⟩ := hrel
      by_cases hlt : k < ws.length
      · obtain rfl := H1.out (by omega)
        have hok := okW_iff.1 (all_get hal.out hlt)
        have hcell0 := (HBB.out.cell (p := ⟨b, off + k, none⟩) (by exact World.block_lt_of_cell? _ _ (H3.out k hlt))).trans (H3.out k hlt)
        obtain ⟨n, hx, hcell⟩ := name_cell hcell0
        clear hcell0
        rw [← hx] at hok
        obtain ⟨hn0, hn8, hn64⟩ := hok
        have HX := Lib.hid hx
        clear hx
        have hlt' : (k : Int) < ws.length := by omega
        have hacc : acc.length ≤ 64 := by
          have h3 := HP.out.2.1
          have := cntL_le (ws.take k)
          rw [List.length_take] at this
          omega
        have hrl : (bs.drop S).length = bs.length - S := by simp
        have HRL := Lib.hid hrl
        clear hrl
        by_cases hs : bs.length - S < n.natAbs
        · have HE : Hid (getS ws bs = ([], 1)) := getS_err HRW.out (HP.out.short hlt (by rw [← HX.out, HRL.out]; omega))
          rcases (show n < 0 ∨ 0 < n by omega) with hneg | hpos
          · have hs' : (bs.length : Int) - S < -n := by omega
            clear hs
            go_wp2_with fail
            go_ret2
            exact GotS.err HE.out HBB.out
          · have hs' : (bs.length : Int) - S < n := by omega
            clear hs
            go_wp2_with fail
            go_ret2
            exact GotS.err HE.out HBB.out
        · rcases (show n < 0 ∨ 0 < n by omega) with hneg | hpos
          · have hs' : ¬ (bs.length : Int) - S < -n := by omega
            obtain ⟨m, hm⟩ : ∃ m : Nat, m = n.natAbs := ⟨_, rfl⟩
            have hmn : (m : Int) = -n := by omega
            have hml : S + m ≤ bs.length := by omega
            have HM := Lib.hid hm
            have HMN := Lib.hid hmn
            clear hs hm hmn
            go_wp2_with fail
            go_loopw [4, 5, 10] (fun ov fv kv wx => ∃ j : Nat, j ≤ m ∧ kv = .int .i64 ((S : Int) + j) ∧ ov = .slice none 0 0 ∧ fv = .int .i64 0 ∧ wx = wr ∧ Hid (((bs.drop S).take j).all (· == 0) = true)) (fun _ _ kv _ => S + m - (intOf kv).toNat)
            case atStart => exact ⟨0, by omega, by simp, rfl, rfl, rfl, by simp [Hid]⟩
            case round =>
              obtain ⟨j, hj, rfl, rfl, rfl, rfl, HZ⟩ := hrel
              by_cases hjm : j < m
              · obtain rfl := H4.out (by omega)
                have hcell1 := (HBB.out.cell (p := ⟨b2, off2 + (S + j), none⟩) (by exact World.block_lt_of_cell? _ _ (H5.out (S + j) (by omega)))).trans (H5.out (S + j) (by omega))
                obtain ⟨x, hxx, hcx⟩ := name_cell hcell1
                have HXX := Lib.hid hxx
                clear hcell1 hxx
                have hj1 : (S : Int) + j < S + -n := by have := HMN.out; omega
                have hj2 : (S : Int) + j < bs.length := by omega
                have HXD : Hid ((bs.drop S).getD j 0 = x) := by rw [Hid, HXX.out]; simp [List.getD]
                by_cases hx0 : x = 0
                · subst hx0
                  have HZ1 : Hid (((bs.drop S).take (j + 1)).all (· == 0) = true) := all_zero_step (by have := HRL.out; omega) HZ.out HXD.out
                  go_wp2_with fail
                  go_roundw
                  case rel => exact ⟨j + 1, by omega, congrArg (Value.int .i64) (by omega), rfl, rfl, trivial, HZ1⟩
                  case measure => simp [intOf]; omega
                · have hxb : (x != 0) = true := by simp; omega
                  have HE : Hid (getS ws bs = ([], 2)) := getS_err HRW.out (HP.out.odd hlt (by rw [← HX.out]; omega) (by rw [← HX.out, HRL.out]; have := HM.out; omega) (by
                    rw [← HX.out, ← HM.out]
                    exact all_zero_not hjm (by have := HRL.out; omega) (by rw [HXD.out]; exact hx0)))
                  go_wp2_with fail
                  go_ret2
                  exact GotS.err HE.out HBB.out
              · obtain rfl : j = m := by omega
                have HP1 : Hid (Getting ws bs (k + 1) acc (bs.drop (S + j))) := by
                  have := HP.out.neg hlt (by rw [← HX.out]; omega) (by rw [← HX.out, HRL.out]; have := HM.out; omega) (by rw [← HX.out, ← HM.out]; exact HZ.out)
                  rw [← HX.out, ← HM.out, List.drop_drop] at this
                  exact this
                have hj1 : ¬ (S : Int) + j < S + -n := by have := HMN.out; omega
                go_wp2_with fail
                go_roundw
                case rel => exact ⟨k + 1, S + j, acc, by omega, by omega, by go_num, congrArg (Value.int .i64) (by have := HMN.out; omega), rfl, rfl, HA.out, HBB.out, HP1⟩
                case measure => simp [intOf]; omega
          · have hs' : ¬ (bs.length : Int) - S < n := by omega
            obtain ⟨m, hm⟩ : ∃ m : Nat, m = n.natAbs := ⟨_, rfl⟩
            have hmn : (m : Int) = n := by omega
            have hml : S + m ≤ bs.length := by omega
            have hm8 : m ≤ 8 := by omega
            obtain ⟨A, hsl, hA⟩ := slice_lohi (P := Try.prog) Try.underlying25 info_u8 H2.out (S : Int) ((S : Int) + n) S (S + m) rfl (by omega) (by omega) hml
            rw [take_drop_mid] at hA
            simp only [Nat.add_sub_cancel_left] at hsl hA
            have HZ := Lib.hid (ref_value _ _ wr (hA.below HBB.out) (by rw [List.length_take]; omega))
            have HP1 : Hid (Getting ws bs (k + 1) (acc ++ [valL ((bs.drop S).take m)]) (bs.drop (S + m))) := by
              have := HP.out.pos hlt (by rw [← HX.out]; omega) (by rw [← HX.out, HRL.out]; omega)
              rw [← HX.out, ← hm, List.drop_drop] at this
              exact this
            have HM := Lib.hid hm
            have HMN := Lib.hid hmn
            clear hs hm hmn hA
            generalize valL ((bs.drop S).take m) = V at *
            go_wp2_with (first | (go_at_call 46; (with_reducible refine HZ.out.mono ?_); rintro e w' ⟨rfl, rfl⟩) | (at_builtin; refine wpList_append_new rfl _ _ _ rfl w.heap.size 76 (.int .u64 0) 1 8 Try.underlying83 info_u64 rfl (by decide) u6 acc.length _ rfl HA.out [.int .u64 V] rfl rfl (by simp [Value.oneCell']) (by unfold maxLen; omega) (by omega) HBB.out.size ?_; intro v' w1 hown1 hgrow1; have HO1 := Lib.hid hown1; have HG1 := Lib.hid hgrow1; clear hown1 hgrow1))
            go_loopw [4, 5, 10] (fun ov fv kv wx => kv = .int .i64 S ∧ ov = .slice none 0 0 ∧ fv = .int .i64 0 ∧ wx = w1) (fun _ _ _ _ => 0)
            case atStart => exact ⟨rfl, rfl, rfl, rfl⟩
            case round =>
              obtain ⟨rfl, rfl, rfl, rfl⟩ := hrel
              have hcell0 := (HG1.out.cell hcell (by
                have h3 : b < w.heap.size := World.block_lt_of_cell? _ _ (H3.out k hlt)
                intro e
                have h4 : w.heap.size ≤ b := (HA.out.lt _ e.symm).1
                omega))
              have hlt0 : ¬ n < 0 := by omega
              go_wp2_with fail
              go_roundw
              case rel => exact ⟨k + 1, S + m, acc ++ [V], by omega, by omega, by go_num, congrArg (Value.int .i64) (by have := HMN.out; omega), rfl, rfl, by simpa [Hid] using HO1.out, own_grown HBB.out HBB.out.size HA.out HG1.out rfl, HP1⟩
              case measure => simp [intOf]; omega
      · obtain rfl : k = ws.length := by omega
        go_wp2_with fail
        go_ret2
        exact GotS.ok (getS_ok HRW.out HP.out.done) HA.out HBB.out

end Go.Proofs.Ytoobcgakainelaa
