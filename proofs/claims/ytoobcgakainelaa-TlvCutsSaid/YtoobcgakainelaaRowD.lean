/- The walks of the document's Put, of row.Get and of the document's Get: each answers what the plain Lean says. Conditions: the arguments read as lists of numbers. -/
import Derived.Test.YtoobcgakainelaaRowC
import Derived.Test.YtoobcgakainelaaZeros
namespace Go.Proofs.Ytoobcgakainelaa
open Go.RowKit

theorem quiet_eq {P : Program} {f : FuncId} {args : Array Value} {w : World} {n : Nat} {v : Value} (h : Calls P f args (w.drewN n) fun e w' => e = .returned v ∧ w.drewN n = w') : Calls P f args (w.drewN n) fun e w'' => e = .returned v ∧ ∃ m, w'' = w.drewN m :=
  h.mono fun _ _ ⟨he, hm⟩ => ⟨he, n, hm.symm⟩
theorem ints_one (k : IntKind) (zs : List Int) : ∀ u ∈ zs.map (Value.int k), u.oneCell' = true := ints_oneCell k zs

set_option maxRecDepth 100000 in
set_option maxHeartbeats 400000 in
theorem ref_put (v1 v2 : Value) (ws xs : List Int) (w : World) (h1 : Ints .i64 w v1 ws) (h2 : Ints .u64 w v2 xs) :
    Calls Try.prog 61 #[v1, v2] w fun e w' => ∃ v', e = .returned (.tuple #[v', .bool (putS ws xs).isSome]) ∧ w'.ownsRow w.heap.size 5 1 v' ((putS ws xs).getD []).length (((putS ws xs).getD []).map (Value.int .u8)) ∧ Below w.heap.size w w' := by
  have hle := h1.le
  have hle2 := h2.le
  have R1 := Lib.hid (ref_right v1 ws w h1)
  have R2 := Lib.hid (ref_count v1 ws w h1)
  obtain ⟨a, cap, b, off, rfl, -, -, -, ha, hc⟩ := h1.open
  have HU := Lib.hid h2.u64
  obtain ⟨a2, cap2, b2, off2, rfl, hl2, hm2, hn2, ha2, hc2⟩ := h2.open
  have H1 := Lib.hid ha
  have H3 := Lib.hid hc
  have H4 := Lib.hid ha2
  have H5 := Lib.hid hc2
  clear ha hc h1 h2 ha2 hc2
  cases hr : RightS ws with
  | false =>
    rw [hr] at R1
    have hp : putS ws xs = none := by simp [putS, hr]
    rw [hp]; clear hp hr
    go_enter Try.func61, Try.ntmps61
    go_wp2_with (first | (go_at_call 75; refine R1.out.mono ?_; rintro e w' ⟨rfl, rfl⟩))
    go_ret2
    exact ⟨_, rfl, World.ownsRow_nil _ _ _ _, Below.refl _ _⟩
  | true =>
    rw [hr] at R1
    have hcs : countS ws = cntL ws := by simp [countS, hr]
    have hsz := sizeL_le (right_all hr)
    have hwl := right_len hr
    have hal := Lib.hid (right_all hr)
    rw [hcs] at R2
    by_cases hcl : cntL ws = xs.length
    · have e1 : ((cntL ws : Int) != (xs.length : Int)) = false := by simp; omega
      rw [hcl] at R2 e1
      have hcl := Lib.hid hcl
      have HRW := Lib.hid hr
      clear hcs hr
      go_enter Try.func61, Try.ntmps61
      go_wp2_with (first | (go_at_call 75; refine R1.out.mono ?_; rintro e w' ⟨rfl, rfl⟩) | (go_at_call 80; refine R2.out.mono ?_; rintro e w' ⟨rfl, rfl⟩))
      go_loopw [5, 6, 7, 8] (fun okv bv kv i wr => ∃ (k kk : Nat) (acc : List Int), k ≤ ws.length ∧ kk ≤ xs.length ∧ i = .int .i64 k ∧ kv = .int .i64 kk ∧ okv = .bool false ∧ Hid (wr.ownsRow w.heap.size 5 1 bv acc.length (acc.map (Value.int .u8))) ∧ Hid (Below w.heap.size w wr) ∧ Hid (Putting ws xs k acc (xs.drop kk))) (fun _ _ _ i _ => ws.length - (intOf i).toNat)
      case atStart => exact ⟨0, 0, [], by omega, by omega, rfl, rfl, rfl, World.ownsRow_nil _ _ _ _, Below.refl _ _, by have := Putting.start hcl.out HU.out; simpa [Hid] using this⟩
      case round =>
        obtain ⟨k, kk, acc, hk, hkk, rfl, rfl, rfl, HA, HBB, HP⟩ := hrel
        by_cases hlt : k < ws.length
        · obtain rfl := H1.out (by omega)
          have hok := okW_iff.1 (all_get hal.out hlt)
          have hcell0 := (HBB.out.cell (p := ⟨b, off + k, none⟩) (by exact World.block_lt_of_cell? _ _ (H3.out k hlt))).trans (H3.out k hlt)
          obtain ⟨n, hx, hcell⟩ := name_cell hcell0
          clear hcell0
          have hlt' : (k : Int) < ws.length := by omega
          have hacc : acc.length ≤ 4096 := by
            have h3 := HP.out.2.2.1
            have := sizeL_le (all_take hal.out k)
            have : (ws.take k).length ≤ 64 := by rw [List.length_take]; omega
            omega
          rcases (show n < 0 ∨ 0 < n by rw [← hx] at hok; omega) with hneg | hpos
          · obtain ⟨m, hm⟩ : ∃ m : Nat, (m : Int) = -n := ⟨n.natAbs, by omega⟩
            have HP1 : Hid (Putting ws xs (k + 1) (acc ++ List.replicate m 0) (xs.drop kk)) := by
              have := HP.out.neg hlt (by rw [← hx]; exact hneg)
              rw [← hx, be_zero] at this
              have e : n.natAbs = m := by omega
              rwa [e] at this
            have hlo : -64 ≤ n := by rw [← hx] at hok; omega
            have HM := Lib.hid hm
            have hm64 : m ≤ 64 := by omega
            have hm0 : 0 < m := by omega
            have HX := Lib.hid hx
            clear hm hx hok
            go_wp2_with (at_builtin; refine wpList_append_zeros rfl _ _ _ _ rfl w.heap.size 5 .i64 (.int .u8 0) 1 Try.underlying25 Try.underlying3 info_u8 rfl rfl u6 acc.length _ rfl HA.out m _ rfl HM.out.symm hm0 (by unfold maxLen; omega) (by omega) HBB.out.size ?_; intro v' w1 hown1 hgrow1; have HO1 := Lib.hid hown1; have HG1 := Lib.hid hgrow1; clear hown1 hgrow1)
            go_roundw
            case rel => exact ⟨k + 1, kk, acc ++ List.replicate m 0, by omega, hkk, by go_num, rfl, rfl, by simpa [Hid] using HO1.out, own_grown HBB.out HBB.out.size HA.out HG1.out rfl, HP1⟩
            case measure => simp [intOf]; omega
          · have h0 := HP.out.some hlt (by rw [← hx]; exact hpos)
            have hkl : kk < xs.length := by simp at h0; omega
            obtain rfl := H4.out (by omega)
            have hcell0 := (HBB.out.cell (p := ⟨b2, off2 + kk, none⟩) (by exact World.block_lt_of_cell? _ _ (H5.out kk hkl))).trans (H5.out kk hkl)
            obtain ⟨x, hxx, hcx⟩ := name_cell hcell0
            clear hcell0
            have hkl' : (kk : Int) < xs.length := by omega
            have hn8 : n ≤ 8 := by rw [← hx] at hok; omega
            have ed : (xs.drop kk).getD 0 0 = x := by rw [hxx]; simp [List.getD]
            have hu := HU.out _ (getD_mem hkl)
            rw [← hxx] at hu
            have HU8 := Lib.hid hu
            have HX := Lib.hid hx
            have HXX := Lib.hid hxx
            have HED := Lib.hid ed
            clear ed hu hx hxx hok
            cases hf : fitsW x n with
            | false =>
              have HB0 : Hid (putL ws xs = none) := HP.out.bad hlt (by rw [← HX.out]; exact hpos) (by rw [← HX.out, HED.out]; exact hf)
              have HF : Hid (∀ wx : World, Calls Try.prog 81 #[.int .u64 x, .int .i64 n] wx fun e w' => e = .returned (.bool false) ∧ wx = w') := fun wx => by
                have := ref_fits x n wx hpos hn8; rwa [hf] at this
              clear hf
              go_wp2_with fail
              go_quiet ((go_at_call 81; exact quiet_eq (HF.out _)))
              go_wp2_with fail
              go_ret2
              have hps : putS ws xs = none := by rw [putS, HB0.out]; split <;> rfl
              rw [hps]
              exact ⟨_, rfl, World.ownsRow_nil _ _ _ _, below_drewN HBB.out _⟩
            | true =>
              have HP1 : Hid (Putting ws xs (k + 1) (acc ++ be n.natAbs x) (xs.drop (kk + 1))) := by
                have := HP.out.pos hlt (by rw [← HX.out]; exact hpos) (by rw [← HX.out, HED.out]; exact hf)
                rw [← HX.out, HED.out, List.drop_drop] at this
                exact this
              have HF : Hid (∀ wx : World, Calls Try.prog 81 #[.int .u64 x, .int .i64 n] wx fun e w' => e = .returned (.bool true) ∧ wx = w') := fun wx => by
                have := ref_fits x n wx hpos hn8; rwa [hf] at this
              have HC : Hid (∀ wx : World, Calls Try.prog 50 #[.int .u64 x, .int .i64 n] wx fun e w' => ∃ v, e = .returned v ∧ w'.ownsRow wx.heap.size 5 1 v n.natAbs ((be n.natAbs x).map (Value.int .u8)) ∧ Below wx.heap.size wx w') := fun wx => by
                have := ref_num x n.natAbs wx (by omega)
                rwa [show (n.natAbs : Int) = n by omega] at this
              clear hf
              go_wp2_with fail
              go_quiet ((go_at_call 81; exact quiet_eq (HF.out _)))
              go_wp2_with fail
              have HA2 : Hid ((wr.drewN nq).ownsRow w.heap.size 5 1 u6 acc.length (acc.map (Value.int .u8))) := HA.out
              have HB2 : Hid (Below w.heap.size w (wr.drewN nq)) := below_drewN HBB.out _
              have hc1 : (wr.drewN nq).cell? ⟨b, off + k, none⟩ = some (.int .i64 n) := hcell
              have hc2 : (wr.drewN nq).cell? ⟨b2, off2 + kk, none⟩ = some (.int .u64 x) := hcx
              clear hcell hcx HA HBB
              generalize wr.drewN nq = wd at *
              go_region_law (first | (refine step_append_sl (by rfl) _ _ _ (by rfl) w.heap.size 5 (.int .u8 0) 1 1 Try.underlying25 info_u8 rfl (by omega) u6 acc.length (acc.map (Value.int .u8)) (by rfl) (own_below HA2.out.drew HB3.out) vn n.natAbs ((be n.natAbs x).map (Value.int .u8)) (by rfl) (by simp [be_length]) (Sl.of_own HO3.out) (ints_one _ _) (by unfold maxLen; omega) (by omega) (Nat.le_trans HB2.out.size HB3.out.size) ?_; intro v' w1 hown1 hgrow1; have HO1 := Lib.hid hown1; have HG1 := Lib.hid hgrow1; clear hown1 hgrow1) | (go_simp; go_at_call 50; refine (HC.out _).mono ?_; rintro e w3 ⟨vn, rfl, hown3, hb3⟩; have HO3 := Lib.hid hown3; have HB3 := Lib.hid hb3; clear hown3 hb3))
              all_goals (try go_wp2_with fail)
              all_goals
                go_roundw
                case rel => exact ⟨k + 1, kk + 1, acc ++ be n.natAbs x, by omega, by omega, by go_num, by go_num, rfl, by simpa [Hid, be_length] using HO1.out, own_grown (HB2.out.trans (((Below.refl _ _).drew).trans (HB3.out.mono HB2.out.size))) (Nat.le_trans HB2.out.size HB3.out.size) (own_below HA2.out.drew HB3.out) HG1.out rfl, HP1⟩
                case measure => simp [intOf]; omega
        · obtain rfl : k = ws.length := by omega
          go_wp2_with fail
          go_ret2
          have hps : putS ws xs = some acc := by
            have h3 := hcl.out
            rw [putS, HP.out.done, HRW.out, h3]
            simp
          rw [hps]
          exact ⟨_, rfl, HA.out, HBB.out⟩
    · have hne : ((cntL ws : Int) != (xs.length : Int)) = true := by simp; omega
      have hps : putS ws xs = none := by simp [putS, hcl]
      rw [hps]
      clear hcl hps hr hcs
      go_enter Try.func61, Try.ntmps61
      go_wp2_with (first | (go_at_call 75; refine R1.out.mono ?_; rintro e w' ⟨rfl, rfl⟩) | (go_at_call 80; refine R2.out.mono ?_; rintro e w' ⟨rfl, rfl⟩))
      go_ret2
      exact ⟨_, rfl, World.ownsRow_nil _ _ _ _, Below.refl _ _⟩

end Go.Proofs.Ytoobcgakainelaa
