/- The walk of the law 'HelloSame': it returns true. Conditions: the arguments read as messages. -/
import Derived.Test.YtcebcncpbedkmaaGreatZSamU
import Derived.Test.YtcebcncpbedkmaaGreatZHelS
import Derived.Deep.RegionHeld3
import Derived.Deep.MidRow
namespace Go.Proofs.YtcebcncpbedkmaaGreat
open Go Go.RowKit
set_option maxRecDepth 100000
set_option maxHeartbeats 8000000

/-- The cells that the last statement reads, and that nothing older has turned. -/
abbrev HeldS (w9 w' : World) (p1 p2 : Nat) (u0 u1 u2 u3 u4 u5 u6 u7 u8 u9 u10 u11 u12 u13 u14 v0 v1 v2 v3 v4 v5 v6 v7 v8 v9 v10 v11 v12 v13 v14 : Value) : Prop :=
  w'.rangeAt p1 0 [u0, u1, u2, u3, u4, u5, u6, u7, u8, u9, u10, u11, u12, u13, u14] ∧ w'.rangeAt p2 0 [v0, v1, v2, v3, v4, v5, v6, v7, v8, v9, v10, v11, v12, v13, v14] ∧ Below w9.heap.size w9 w'
theorem HeldS.next {w9 w w' : World} {p1 p2 : Nat} {u0 u1 u2 u3 u4 u5 u6 u7 u8 u9 u10 u11 u12 u13 u14 v0 v1 v2 v3 v4 v5 v6 v7 v8 v9 v10 v11 v12 v13 v14 : Value} (h : HeldS w9 w p1 p2 u0 u1 u2 u3 u4 u5 u6 u7 u8 u9 u10 u11 u12 u13 u14 v0 v1 v2 v3 v4 v5 v6 v7 v8 v9 v10 v11 v12 v13 v14) (hb : Below w.heap.size w w') : HeldS w9 w' p1 p2 u0 u1 u2 u3 u4 u5 u6 u7 u8 u9 u10 u11 u12 u13 u14 v0 v1 v2 v3 v4 v5 v6 v7 v8 v9 v10 v11 v12 v13 v14 := by
  obtain ⟨h1, h2, hB⟩ := h
  exact ⟨fun j u hu => (hb.cell (World.block_lt_of_cell? _ _ (h1 j u hu))).trans (h1 j u hu), fun j u hu => (hb.cell (World.block_lt_of_cell? _ _ (h2 j u hu))).trans (h2 j u hu), hB.trans (hb.mono hB.size)⟩
theorem range_row {w : World} {b : Nat} {C : List Value} {t : TypeId} {fr : Nat × Nat} (h : w.heap[b]? = some (.cells C.toArray t fr)) : w.rangeAt b 0 C := fun j u hu => by
  rw [Nat.zero_add, cell_row h j]
  simpa using hu
theorem HeldS.bel {w9 w : World} {p1 p2 : Nat} {u0 u1 u2 u3 u4 u5 u6 u7 u8 u9 u10 u11 u12 u13 u14 v0 v1 v2 v3 v4 v5 v6 v7 v8 v9 v10 v11 v12 v13 v14 : Value} (h : HeldS w9 w p1 p2 u0 u1 u2 u3 u4 u5 u6 u7 u8 u9 u10 u11 u12 u13 u14 v0 v1 v2 v3 v4 v5 v6 v7 v8 v9 v10 v11 v12 v13 v14) : Below w9.heap.size w9 w := h.2.2

theorem hs_core (u0 u1 u2 u3 u4 u5 u6 u7 u8 u9 u10 u11 u12 u13 u14 v0 v1 v2 v3 v4 v5 v6 v7 v8 v9 v10 v11 v12 v13 v14 : Value) (bb ba : Bool) (w : World)
    (HF1 : Hid (∀ W, Below w.heap.size w W → Calls Tryz.prog 4 #[.agg #[u0, u1, u2, u3, u4, u5, u6, u7, u8, u9, u10, u11, u12, u13, u14]] W fun e w' => (∃ b, e = .returned (.bool b)) ∧ Below W.heap.size W w'))
    (HF2 : Hid (∀ W, Below w.heap.size w W → Calls Tryz.prog 4 #[.agg #[v0, v1, v2, v3, v4, v5, v6, v7, v8, v9, v10, v11, v12, v13, v14]] W fun e w' => (∃ b, e = .returned (.bool b)) ∧ Below W.heap.size W w'))
    (HSm : Hid (∀ W, Below w.heap.size w W → Calls Tryz.prog 6 #[.agg #[u0, u1, u2, u3, u4, u5, u6, u7, u8, u9, u10, u11, u12, u13, u14], .agg #[v0, v1, v2, v3, v4, v5, v6, v7, v8, v9, v10, v11, v12, v13, v14]] W (GotEq bb W)))
    (HSr : Hid (∀ W, Below w.heap.size w W → Calls Tryz.prog 7 #[.agg #[u0, u1, u2, u3, u4, u5, u6, u7, u8, u9, u10, u11, u12, u13, u14], .agg #[v0, v1, v2, v3, v4, v5, v6, v7, v8, v9, v10, v11, v12, v13, v14]] W (GotEq bb W)))
    (HSs : Hid (∀ W, Below w.heap.size w W → Calls Tryz.prog 6 #[.agg #[u0, u1, u2, u3, u4, u5, u6, u7, u8, u9, u10, u11, u12, u13, u14], .agg #[u0, u1, u2, u3, u4, u5, u6, u7, u8, u9, u10, u11, u12, u13, u14]] W (GotEq true W)))
    (HBg : Hid (∀ W, Calls Tryz.prog 8 #[.agg #[u0, u1, u2, u3, u4, u5, u6, u7, u8, u9, u10, u11, u12, u13, u14]] W fun e w' => e = .returned (.bool ba) ∧ Below W.heap.size W w'))
    (HBr : Hid (∀ W, Calls Tryz.prog 9 #[.agg #[u0, u1, u2, u3, u4, u5, u6, u7, u8, u9, u10, u11, u12, u13, u14]] W fun e w' => e = .returned (.bool ba) ∧ Below W.heap.size W w')) :
    Calls Tryz.prog 3 #[.agg #[u0, u1, u2, u3, u4, u5, u6, u7, u8, u9, u10, u11, u12, u13, u14], .agg #[v0, v1, v2, v3, v4, v5, v6, v7, v8, v9, v10, v11, v12, v13, v14]] w fun e w' => e = .returned (.bool true) ∧ Below w.heap.size w w' := by
  have hbb : (bb == bb) = true := by simp
  have hba : (ba == ba) = true := by simp
  have hb0 := below_alloc2 (w := w) (.cells #[u0, u1, u2, u3, u4, u5, u6, u7, u8, u9, u10, u11, u12, u13, u14] 35)
  have hb1 := below_alloc2 (w := w.alloc (.cells #[u0, u1, u2, u3, u4, u5, u6, u7, u8, u9, u10, u11, u12, u13, u14] 35)) (.cells #[v0, v1, v2, v3, v4, v5, v6, v7, v8, v9, v10, v11, v12, v13, v14] 35)
  have HB0 := Lib.hid (hb0.trans (hb1.mono (by simp)))
  have HP0 := Lib.hid (row_below hb1 (heap_alloc_new w (.cells #[u0, u1, u2, u3, u4, u5, u6, u7, u8, u9, u10, u11, u12, u13, u14] 35)))
  have HQ0 := heap_alloc_new (w.alloc (.cells #[u0, u1, u2, u3, u4, u5, u6, u7, u8, u9, u10, u11, u12, u13, u14] 35)) (.cells #[v0, v1, v2, v3, v4, v5, v6, v7, v8, v9, v10, v11, v12, v13, v14] 35)
  rw [World.size_alloc] at HQ0
  have HQ0 := Lib.hid HQ0
  clear hb0 hb1
  go_enter Tryz.func3, Tryz.ntmps3
  go_wp2_with fail
  refine (HF1.out _ HB0.out).mono ?_
  rintro e w1 ⟨⟨bf, rfl⟩, hb⟩
  have HB1 := Lib.hid (HB0.out.trans (hb.mono HB0.out.size))
  have HP1 := Lib.hid (row_below hb HP0.out)
  have HQ1 := Lib.hid (row_below hb HQ0.out)
  clear hb
  cases bf
  case false =>
    go_wp2_with fail
    (with_reducible refine (sure21 _).mono ?_)
    rintro e w2 ⟨rfl, hb⟩
    have HB2 := Lib.hid (HB1.out.trans (hb.mono HB1.out.size))
    clear hb
    go_wp2_with fail
    go_ret
    exact ⟨rfl, HB2.out⟩
  have d0 := cell_row HQ1.out 0
  have d1 := cell_row HQ1.out 1
  have d2 := cell_row HQ1.out 2
  have d3 := cell_row HQ1.out 3
  have d4 := cell_row HQ1.out 4
  have d5 := cell_row HQ1.out 5
  have d6 := cell_row HQ1.out 6
  have d7 := cell_row HQ1.out 7
  have d8 := cell_row HQ1.out 8
  have d9 := cell_row HQ1.out 9
  have d10 := cell_row HQ1.out 10
  have d11 := cell_row HQ1.out 11
  have d12 := cell_row HQ1.out 12
  have d13 := cell_row HQ1.out 13
  have d14 := cell_row HQ1.out 14
  go_wp2_with fail
  refine (HF2.out _ HB1.out).mono ?_
  rintro e w9 ⟨⟨bf, rfl⟩, hb⟩
  have HB9 := Lib.hid (HB1.out.trans (hb.mono HB1.out.size))
  have HP9 := Lib.hid (row_below hb HP1.out)
  have HQ9 := Lib.hid (row_below hb HQ1.out)
  clear hb d0 d1 d2 d3 d4 d5 d6 d7 d8 d9 d10 d11 d12 d13 d14
  cases bf
  case false =>
    go_wp2_with fail
    (with_reducible refine (sure21 _).mono ?_)
    rintro e w2 ⟨rfl, hb⟩
    have HB2 := Lib.hid (HB9.out.trans (hb.mono HB9.out.size))
    clear hb
    go_wp2_with fail
    go_ret
    exact ⟨rfl, HB2.out⟩
  have HSd : HeldS w9 w9.drew w.heap.size (w.heap.size + 1) u0 u1 u2 u3 u4 u5 u6 u7 u8 u9 u10 u11 u12 u13 u14 v0 v1 v2 v3 v4 v5 v6 v7 v8 v9 v10 v11 v12 v13 v14 := ⟨fun j u hu => range_row HP9.out j u hu, fun j u hu => range_row HQ9.out j u hu, below_drewN (Below.refl _ _) 1⟩
  have HS0 : HeldS w9 w9 w.heap.size (w.heap.size + 1) u0 u1 u2 u3 u4 u5 u6 u7 u8 u9 u10 u11 u12 u13 u14 v0 v1 v2 v3 v4 v5 v6 v7 v8 v9 v10 v11 v12 v13 v14 := ⟨range_row HP9.out, range_row HQ9.out, Below.refl _ _⟩
  go_wp2_with fail
  refine wp_region_held (S := fun w' => HeldS w9 w' w.heap.size (w.heap.size + 1) u0 u1 u2 u3 u4 u5 u6 u7 u8 u9 u10 u11 u12 u13 u14 v0 v1 v2 v3 v4 v5 v6 v7 v8 v9 v10 v11 v12 v13 v14) (by kernel_rfl) ?_
  refine wpAnyH_take (i := 0) (oi := ⟨some 14, _, _, _, _, _⟩) rfl (by kernel_rfl) (by kernel_rfl) (by kernel_rfl) (fun _ _ _ h => h) (yieldsIf_load_mid (by rfl) 35 _ rfl _ 0 rfl _ _ (fun _ hS => hS.1) Tryz.underlying35 rfl (by kernel_rfl)) HSd ?_
  simp only [Act.put]
  refine wpAnyH_take (i := 1) (oi := ⟨some 15, _, _, _, _, _⟩) rfl (by kernel_rfl) (by kernel_rfl) (by kernel_rfl) (fun _ _ _ h => h) (yieldsIf_load_mid (by rfl) 35 _ rfl _ 0 rfl _ _ (fun _ hS => hS.2.1) Tryz.underlying35 rfl (by kernel_rfl)) HSd ?_
  simp only [Act.put]
  refine wpAnyH_take (i := 3) (oi := ⟨some 17, _, _, _, _, _⟩) rfl (by kernel_rfl) (by kernel_rfl) (by kernel_rfl) (fun _ _ _ h => h) (yieldsIf_load_mid (by rfl) 35 _ rfl _ 0 rfl _ _ (fun _ hS => hS.1) Tryz.underlying35 rfl (by kernel_rfl)) HSd ?_
  simp only [Act.put]
  refine wpAnyH_take (i := 4) (oi := ⟨some 18, _, _, _, _, _⟩) rfl (by kernel_rfl) (by kernel_rfl) (by kernel_rfl) (fun _ _ _ h => h) (yieldsIf_load_mid (by rfl) 35 _ rfl _ 0 rfl _ _ (fun _ hS => hS.2.1) Tryz.underlying35 rfl (by kernel_rfl)) HSd ?_
  simp only [Act.put]
  refine wpAnyH_ready (rs := [2]) (by kernel_rfl) (by simp) ?_
  refine AllReadyH.cons rfl (fun K hK => ?_) AllReadyH.nil
  go_simp
  refine (HSm.out _ (HB9.out.trans ((HeldS.bel HSd).mono HB9.out.size))).mono ?_
  rintro e x1 ⟨rfl, hb⟩
  have HS1 := HeldS.next HSd hb
  clear hb
  refine hK.out _ _ HS1 (fun _ => ?_)
  clear hK K
  refine wpAnyH_ready (rs := [5]) (by kernel_rfl) (by simp) ?_
  refine AllReadyH.cons rfl (fun K hK => ?_) AllReadyH.nil
  go_simp
  refine (HSr.out _ (HB9.out.trans ((HeldS.bel HS1).mono HB9.out.size))).mono ?_
  rintro e x2 ⟨rfl, hb⟩
  have HS2 := HeldS.next HS1 hb
  clear hb
  refine hK.out _ _ HS2 (fun _ => ?_)
  clear hK K
  refine wpAnyH_take (i := 6) (oi := ⟨some 20, _, _, _, _, _⟩) (v := .bool true) rfl (by kernel_rfl) (by kernel_rfl) (by kernel_rfl) (fun _ _ _ h => h) (Or.inl ⟨by rfl, fun _ _ => by go_simp⟩) HS2 ?_
  simp only [Act.put]
  refine wpAnyH_take (i := 7) (oi := ⟨some 21, _, _, _, _, _⟩) (v := .bool true) rfl (by kernel_rfl) (by kernel_rfl) (by kernel_rfl) (fun _ _ _ h => h) (Or.inl ⟨by rfl, fun _ _ => by go_simp⟩) HS2 ?_
  simp only [Act.put]
  refine wpAnyH_take (i := 8) (oi := ⟨some 22, _, _, _, _, _⟩) rfl (by kernel_rfl) (by kernel_rfl) (by kernel_rfl) (fun _ _ _ h => h) (yieldsIf_load_mid (by rfl) 35 _ rfl _ 0 rfl _ _ (fun _ hS => hS.1) Tryz.underlying35 rfl (by kernel_rfl)) HS2 ?_
  simp only [Act.put]
  refine wpAnyH_take (i := 9) (oi := ⟨some 23, _, _, _, _, _⟩) rfl (by kernel_rfl) (by kernel_rfl) (by kernel_rfl) (fun _ _ _ h => h) (yieldsIf_load_mid (by rfl) 35 _ rfl _ 0 rfl _ _ (fun _ hS => hS.1) Tryz.underlying35 rfl (by kernel_rfl)) HS2 ?_
  simp only [Act.put]
  refine wpAnyH_ready (rs := [10]) (by kernel_rfl) (by simp) ?_
  refine AllReadyH.cons rfl (fun K hK => ?_) AllReadyH.nil
  go_simp
  refine (HSs.out _ (HB9.out.trans ((HeldS.bel HS2).mono HB9.out.size))).mono ?_
  rintro e x3 ⟨rfl, hb⟩
  have HS3 := HeldS.next HS2 hb
  clear hb
  refine hK.out _ _ HS3 (fun _ => ?_)
  clear hK K
  refine wpAnyH_take (i := 11) (oi := ⟨some 25, _, _, _, _, _⟩) (v := .bool true) rfl (by kernel_rfl) (by kernel_rfl) (by kernel_rfl) (fun _ _ _ h => h) (Or.inl ⟨by rfl, fun _ _ => by go_simp⟩) HS3 ?_
  simp only [Act.put]
  refine wpAnyH_take (i := 12) (oi := ⟨some 26, _, _, _, _, _⟩) (v := .bool true) rfl (by kernel_rfl) (by kernel_rfl) (by kernel_rfl) (fun _ _ _ h => h) (Or.inl ⟨by rfl, fun _ _ => by go_simp⟩) HS3 ?_
  simp only [Act.put]
  refine wpAnyH_take (i := 13) (oi := ⟨some 27, _, _, _, _, _⟩) rfl (by kernel_rfl) (by kernel_rfl) (by kernel_rfl) (fun _ _ _ h => h) (yieldsIf_load_mid (by rfl) 35 _ rfl _ 0 rfl _ _ (fun _ hS => hS.1) Tryz.underlying35 rfl (by kernel_rfl)) HS3 ?_
  simp only [Act.put]
  refine wpAnyH_take (i := 15) (oi := ⟨some 29, _, _, _, _, _⟩) rfl (by kernel_rfl) (by kernel_rfl) (by kernel_rfl) (fun _ _ _ h => h) (yieldsIf_load_mid (by rfl) 35 _ rfl _ 0 rfl _ _ (fun _ hS => hS.1) Tryz.underlying35 rfl (by kernel_rfl)) HS3 ?_
  simp only [Act.put]
  refine wpAnyH_ready (rs := [14]) (by kernel_rfl) (by simp) ?_
  refine AllReadyH.cons rfl (fun K hK => ?_) AllReadyH.nil
  go_simp
  refine (HBg.out _).mono ?_
  rintro e x4 ⟨rfl, hb⟩
  have HS4 := HeldS.next HS3 hb
  clear hb
  refine hK.out _ _ HS4 (fun _ => ?_)
  clear hK K
  refine wpAnyH_ready (rs := [16]) (by kernel_rfl) (by simp) ?_
  refine AllReadyH.cons rfl (fun K hK => ?_) AllReadyH.nil
  go_simp
  refine (HBr.out _).mono ?_
  rintro e x5 ⟨rfl, hb⟩
  have HS5 := HeldS.next HS4 hb
  clear hb
  refine hK.out _ _ HS5 (fun _ => ?_)
  clear hK K
  refine wpAnyH_take (i := 17) (oi := ⟨some 31, _, _, _, _, _⟩) (v := .bool true) rfl (by kernel_rfl) (by kernel_rfl) (by kernel_rfl) (fun _ _ _ h => h) (Or.inl ⟨by rfl, fun _ _ => by go_simp⟩) HS5 ?_
  simp only [Act.put]
  refine wpAnyH_take (i := 18) (oi := ⟨some 32, _, _, _, _, _⟩) (v := .bool true) rfl (by kernel_rfl) (by kernel_rfl) (by kernel_rfl) (fun _ _ _ h => h) (Or.inl ⟨by rfl, fun _ _ => by go_simp⟩) HS5 ?_
  simp only [Act.put]
  refine wpAnyH_take (i := 19) (oi := ⟨some 33, _, _, _, _, _⟩) (v := .bool true) rfl (by kernel_rfl) (by kernel_rfl) (by kernel_rfl) (fun _ _ _ h => h) (Or.inl ⟨by rfl, fun _ _ => by go_simp⟩) HS5 ?_
  simp only [Act.put]
  refine wpAnyH_ready (rs := [20]) (by kernel_rfl) (by simp) ?_
  refine AllReadyH.cons rfl (fun K hK => ?_) AllReadyH.nil
  go_simp
  refine (sure21 _).mono ?_
  rintro e x6 ⟨rfl, hb⟩
  have HS6 := HeldS.next HS5 hb
  clear hb
  refine hK.out _ _ HS6 (fun _ => ?_)
  clear hK K
  refine wpAnyH_take (i := 21) (oi := ⟨some 35, _, _, _, _, _⟩) (v := .bool true) rfl (by kernel_rfl) (by kernel_rfl) (by kernel_rfl) (fun _ _ _ h => h) (Or.inl ⟨by rfl, fun _ _ => by go_simp⟩) HS6 ?_
  simp only [Act.put]
  refine wpAnyH_take (i := 22) (oi := ⟨some 4, _, _, _, _, _⟩) (v := .bool true) rfl (by kernel_rfl) (by kernel_rfl) (by kernel_rfl) (fun _ _ _ h => h) (Or.inl ⟨by rfl, fun _ _ => by go_simp⟩) HS6 ?_
  simp only [Act.put]
  refine wpAnyH_done (by kernel_rfl) ?_ _
  go_wp2
  go_ret
  exact ⟨by simp, HB9.out.trans ((HeldS.bel HS6).mono HB9.out.size)⟩

theorem walk_HelloSame (v : Value) (m : MsgV) (v2 : Value) (n : MsgV) (w : World) (h1 : MsgOk w v m) (h2 : MsgOk w v2 n) :
    Calls Tryz.prog 3 #[v, v2] w fun e w' => e = .returned (.bool true) ∧ Below w.heap.size w w' := by
  obtain ⟨r, g1⟩ := rest_of_fits h1.fits
  obtain ⟨s, g2⟩ := rest_of_fits h2.fits
  have HF1 := Lib.hid (fun (W : World) (hb : Below w.heap.size w W) => (few_msg (h1.since hb)).mono fun _ _ h => (⟨by obtain ⟨b, e, -⟩ := h.1; exact ⟨b, e⟩, h.2⟩ : (∃ b, _ = Ending.returned (.bool b)) ∧ _))
  have HF2 := Lib.hid (fun (W : World) (hb : Below w.heap.size w W) => (few_msg (h2.since hb)).mono fun _ _ h => (⟨by obtain ⟨b, e, -⟩ := h.1; exact ⟨b, e⟩, h.2⟩ : (∃ b, _ = Ending.returned (.bool b)) ∧ _))
  have HSm := Lib.hid (fun (W : World) (hb : Below w.heap.size w W) => go_same (h1.since hb) (g1.below hb) (h2.since hb) (g2.below hb))
  have HSr := Lib.hid (fun (W : World) (hb : Below w.heap.size w W) => ref_same21 (h1.since hb) (g1.below hb) (h2.since hb) (g2.below hb))
  have HSs := Lib.hid (fun (W : World) (hb : Below w.heap.size w W) => go_same (h1.since hb) (g1.below hb) (h1.since hb) (g1.below hb))
  rw [sameM_self] at HSs
  obtain ⟨an, cn, ad, cd, rfl, -, -⟩ := h1.cut
  obtain ⟨an2, cn2, ad2, cd2, rfl, -, -⟩ := h2.cut
  exact hs_core (.int .i64 m.ty) (.int .u32 m.xid) (.slice an m.nums.length cn) (.slice ad m.ds.length cd) (.slice m.L.a4 m.L.n4 m.L.c4) (.slice m.L.a5 m.L.n5 m.L.c5) (.slice m.L.a6 m.L.n6 m.L.c6) (.slice m.L.a7 m.L.n7 m.L.c7) (.slice m.L.a8 m.L.n8 m.L.c8) (.slice m.L.a9 m.L.n9 m.L.c9) (.slice m.L.a10 m.L.n10 m.L.c10) (.slice m.L.a11 m.L.n11 m.L.c11) (.int .i64 m.L.kind) (.int .i64 m.L.flags) (.slice m.L.a14 m.L.n14 m.L.c14) (.int .i64 n.ty) (.int .u32 n.xid) (.slice an2 n.nums.length cn2) (.slice ad2 n.ds.length cd2) (.slice n.L.a4 n.L.n4 n.L.c4) (.slice n.L.a5 n.L.n5 n.L.c5) (.slice n.L.a6 n.L.n6 n.L.c6) (.slice n.L.a7 n.L.n7 n.L.c7) (.slice n.L.a8 n.L.n8 n.L.c8) (.slice n.L.a9 n.L.n9 n.L.c9) (.slice n.L.a10 n.L.n10 n.L.c10) (.slice n.L.a11 n.L.n11 n.L.c11) (.int .i64 n.L.kind) (.int .i64 n.L.flags) (.slice n.L.a14 n.L.n14 n.L.c14) (sameM m n r s) (decide (m.nums.length = 0) && bareL m.L && decide (m.ds.length = 0)) w HF1 HF2 HSm HSr HSs (fun W => bare_go m.ty m.xid an m.nums.length cn ad m.ds.length cd m.L W) (fun W => bare_ref m.ty m.xid an m.nums.length cn ad m.ds.length cd m.L W)
end Go.Proofs.YtcebcncpbedkmaaGreat
