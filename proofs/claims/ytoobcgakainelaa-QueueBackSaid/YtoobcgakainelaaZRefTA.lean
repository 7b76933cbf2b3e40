/- The document's shapes: may, zeros; the law's plain, items, few; whether two rows of things are the same. Conditions: those of each lemma. The law's plain, few, items; whether two rows of things are the same. Conditions: those of each lemma. Whether two rows of things are the same; the fixed calls of the fourth chapter come out true. Conditions: those of each lemma. The fixed calls of the fourth chapter's statements come out true. What was joined is told thing by thing; what was cut is few and good. Conditions: those of each lemma. -/
import Derived.Test.YtoobcgakainelaaZTlvJ
import Derived.Test.YtoobcgakainelaaZTlvE
import Derived.Great.Walk
import Derived.Deep.QuietTactic
namespace Go.Proofs.Ytoobcgakainelaa
open Go.RowKit
set_option maxRecDepth 100000
set_option maxHeartbeats 4000000

theorem ref_bytes_q (v1 v2 : Value) (xs ys : List Int) (w : World) (h1 : Ints .u8 w v1 xs) (h2 : Ints .u8 w v2 ys) :
    Calls Try.prog 15 #[v1, v2] w fun e w' => e = .returned (.bool (decide (xs = ys))) ∧ ∃ q, w' = w.drewN q := by
  have hle := h1.le
  obtain ⟨a, cap, b, off, rfl, -, -, -, ha, hc⟩ := h1.open
  obtain ⟨a2, cap2, b2, off2, rfl, -, -, -, ha2, hc2⟩ := h2.open
  have H1 := Lib.hid ha
  have H3 := Lib.hid hc
  have H2 := Lib.hid ha2
  have H4 := Lib.hid hc2
  clear ha hc h1 h2 ha2 hc2
  by_cases hl : xs.length = ys.length
  · have e1 : ((xs.length : Int) != (xs.length : Int)) = false := by simp
    rw [← hl]
    have HL := Lib.hid hl
    clear hl
    go_enter Try.func15, Try.ntmps15
    go_wp2
    go_loopw [4, 5] (fun r i wr => ∃ k q : Nat, k ≤ xs.length ∧ i = .int .i64 k ∧ r = .bool false ∧ wr = w.drewN q ∧ Hid (xs.take k = ys.take k)) (fun _ i _ => xs.length - (intOf i).toNat)
    case atStart => exact ⟨0, 0, by omega, rfl, rfl, rfl, rfl⟩
    case round =>
      obtain ⟨k, q, hk, rfl, rfl, rfl, HT⟩ := hrel
      by_cases hlt : k < xs.length
      · obtain rfl := H1.out (by omega)
        obtain rfl := H2.out (by have := HL.out; omega)
        obtain ⟨x, hx, hcx⟩ := name_cell (H3.out k hlt)
        obtain ⟨y, hy, hcy⟩ := name_cell (H4.out k (by have := HL.out; omega))
        have HX := Lib.hid hx
        have HY := Lib.hid hy
        clear hx hy
        have hlt' : (k : Int) < xs.length := by omega
        by_cases he : x = y
        · subst he
          go_wp2_with fail
          go_quiet (fail)
          go_wp2_with fail
          go_roundw
          case rel => exact ⟨k + 1, q + nq, by omega, by go_num, rfl, rfl, take_step hlt (by have := HL.out; omega) HT.out (HX.out.symm.trans HY.out)⟩
          case measure => simp [intOf]; omega
        · go_wp2_with fail
          go_quiet (fail)
          go_wp2_with fail
          go_ret
          have hne : decide (xs = ys) = false := by
            rw [decide_eq_false_iff_not]
            rintro rfl
            exact he (HX.out.trans HY.out.symm)
          exact ⟨by rw [hne]; rfl, q + nq, by simp [World.drewN, Nat.add_assoc]⟩
      · obtain rfl : k = xs.length := by omega
        go_wp2_with fail
        go_ret
        exact ⟨by rw [decide_eq_true (eq_of_take HL.out HT.out)]; rfl, q, rfl⟩
  · have hne : decide (xs = ys) = false := by
      rw [decide_eq_false_iff_not]
      rintro rfl
      exact hl rfl
    have HNE := Lib.hid hne
    have hb : ((xs.length : Int) != (ys.length : Int)) = true := by simp; omega
    clear hne
    go_enter Try.func15, Try.ntmps15
    go_wp2
    go_ret
    exact ⟨by rw [HNE.out]; rfl, 0, rfl⟩

theorem ref_may (s : Sh) (w : World) : Calls Try.prog 45 #[s.val] w fun e w' => e = .returned (.bool s.may) ∧ Below w.heap.size w w' := by
  obtain ⟨least, step, pad, bad, odd⟩ := s
  unfold Sh.val Sh.may
  go_enter Try.func45, Try.ntmps45
  go_wp2
  all_goals
    go_ret
    refine ⟨?_, below_alloc2 _⟩
    first
      | (simp_all; done)
      | (simp_all; omega)
      | (by_cases h : odd = 0 <;> simp_all)


theorem zer_hit {st : Nat} (n : Nat) (h : 0 < st) : (n + (st - n % st) % st) % st = 0 := by
  have h1 := Nat.mod_lt n h
  by_cases h0 : n % st = 0
  · rw [h0, Nat.sub_zero, Nat.mod_self, Nat.add_zero]; exact h0
  · rw [Nat.mod_eq_of_lt (show st - n % st < st by omega)]
    have h2 := Nat.div_add_mod n st
    rw [show n + (st - n % st) = st * (n / st) + st by omega, Nat.add_mod_right, Nat.mul_mod_right]
theorem zer_miss {st n k : Nat} (h : 0 < st) (hk : k < (st - n % st) % st) : (n + k) % st ≠ 0 := by
  have h1 := Nat.mod_lt n h
  by_cases h0 : n % st = 0
  · rw [h0, Nat.sub_zero, Nat.mod_self] at hk; omega
  · rw [Nat.mod_eq_of_lt (show st - n % st < st by omega)] at hk
    have h2 := Nat.div_add_mod n st
    rw [show n + k = n % st + k + st * (n / st) by omega, Nat.add_mul_mod_self_left, Nat.mod_eq_of_lt (by omega)]
    omega

theorem ref_zeros (n st : Nat) (h1 : 1 ≤ st) (h2 : st ≤ 64) (hn : n ≤ 1000000) (w : World) : Calls Try.prog 47 #[.int .i64 n, .int .i64 st] w fun e w' => e = .returned (.int .i64 ((st - n % st) % st : Nat)) ∧ w = w' := by
  have hz : (st - n % st) % st < st := Nat.mod_lt _ (by omega)
  have HH := Lib.hid (zer_hit n (show 0 < st by omega))
  have HM := Lib.hid (fun k => zer_miss (n := n) (k := k) (show 0 < st by omega))
  generalize (st - n % st) % st = z at hz HH HM ⊢
  have hk0 : (st : Int) ≠ 0 := by omega
  have hkb : ((st : Int) == 0) = false := by simpa using hk0
  go_enter Try.func47, Try.ntmps47
  go_wp2_with fail
  go_loopw [5] (fun i wi => ∃ k : Nat, k ≤ z ∧ i = .int .i64 k ∧ wi = w) (fun i _ => z - (intOf i).toNat)
  case atStart => exact ⟨0, by omega, rfl, rfl⟩
  case round =>
    obtain ⟨k, hk, rfl, rfl⟩ := hrel
    have hc : (((n + k) % st : Nat) : Int) = ((n : Int) + (k : Int)) % (st : Int) := by rw [Int.natCast_emod, Int.natCast_add]
    by_cases hlt : k < z
    · have hne : ((n : Int) + (k : Int)) % (st : Int) ≠ 0 := by have := HM.out k hlt; rw [← hc]; omega
      clear hc
      go_wp2_with fail
      go_roundw
      case rel => exact ⟨k + 1, by omega, by go_num, trivial⟩
      case measure => simp [intOf]; omega
    · obtain rfl : k = z := by omega
      have heq : ((n : Int) + (k : Int)) % (st : Int) = 0 := by rw [← hc, HH.out]; rfl
      clear hc
      go_wp2_with fail
      go_ret
      exact ⟨rfl, rfl⟩

end Go.Proofs.Ytoobcgakainelaa
namespace Go.Proofs.Ytoobcgakainelaa
open Go.RowKit
set_option maxRecDepth 100000
set_option maxHeartbeats 4000000

theorem res_row1 {P : Program} {fn : Func} {p : Tmp} {ty : TypeId} (h : fn.results = #[.cell p ty]) (tmps : Array Value) (w : World) (g : Nat) (t : TypeId) (cs : Array Value) (fr : Nat × Nat) (d : TypeDesc)
    (hp : tmps.getD p undef = .pointer (some ⟨g, 0, none⟩)) (hg : w.heap[g]? = some (.cells cs t fr))
    (hu : P.underlying ty = some d) (hd : (match d with | .struct _ | .array _ _ => true | _ => false) = true) (hi : (P.info? ty).map (·.size) = some cs.size) :
    (results fn tmps).run P w = .ok (.agg cs) w := by
  have hp' : tmps[p]?.getD undef = .pointer (some ⟨g, 0, none⟩) := by simpa using hp
  simp [results, h, hp', asAddr, run_loadVar_row w g t ty cs fr d hg hu hd hi]

theorem law_plain (s : Sh) (w : World) : Calls Try.prog 12 #[s.val] w fun e w' => e = .returned s.val ∧ Below w.heap.size w w' := by
  simp only [Sh.val]
  go_enter Try.func12, Try.ntmps12
  go_wp2
  have hh := heap_alloc_new (w.alloc (.cells #[.int .i64 s.least, .int .i64 s.step, .bool s.pad, .int .i64 s.bad, .int .i64 s.odd] 24)) (.cells #[.int .i64 s.least, .int .i64 s.step, .bool s.pad, .int .i64 s.bad, .int .i64 s.odd] 35)
  rw [World.size_alloc] at hh
  refine bodyPost_ret (res_row1 rfl _ _ (w.heap.size + 1) _ _ _ _ rfl hh Try.underlying35 rfl (by kernel_rfl)) rfl ?_
  exact ⟨rfl, (below_alloc2 _).alloc (by simp) _⟩

/-- Are there few things? -/
def fewT (l : List (Int × List Int)) : Bool := l.all (fun x => decide (x.2.length ≤ 70000)) && decide (l.length ≤ 40)
theorem law_few {v : Value} {l : List (Int × List Int)} {w : World} (h : RowsOf ItemR 2 w v l) : Calls Try.prog 18 #[v] w fun e w' => e = .returned (.bool (fewT l)) ∧ w = w' := by
  obtain ⟨a, cap, b, off, rfl, hcap, hmx, -, ha, hit⟩ := items_open h
  unfold maxLen at hmx
  have A := Lib.hid ha
  have HIt := Lib.hid hit
  clear h ha hit
  go_enter Try.func18, Try.ntmps18
  go_wp2_with fail
  go_loopw [2, 3] (fun r i wi => ∃ k : Nat, k ≤ l.length ∧ i = .int .i64 k ∧ r = .bool false ∧ wi = w ∧ Hid ((l.take k).all (fun x => decide (x.2.length ≤ 70000)) = true)) (fun _ i _ => l.length - (intOf i).toNat)
  case atStart => exact ⟨0, by omega, rfl, rfl, rfl, rfl⟩
  case round =>
    obtain ⟨k, hk, rfl, rfl, rfl, HT⟩ := hrel
    by_cases hlt : k < l.length
    · obtain rfl := A.out (by omega)
      obtain ⟨⟨t, bs⟩, hx⟩ : ∃ x, l[k]? = some x := ⟨_, List.getElem?_eq_getElem hlt⟩
      obtain ⟨bv, x0, x1, hbv, hwf⟩ := HIt.out k t bs hx
      have hbl := hbv.le
      obtain ⟨ab, capb, bb, ob, rfl, hc1, hc2, -⟩ := hbv.open
      have HX := Lib.hid hx
      clear hbv hx
      by_cases hc : bs.length ≤ 70000
      · have e1 : decide ((70000 : Int) < (bs.length : Int)) = false := decide_eq_false (by omega)
        have HT1 : Hid ((l.take (k + 1)).all (fun x => decide (x.2.length ≤ 70000)) = true) := by rw [Hid, take_snoc' HX.out, List.all_append, HT.out]; simp [hc]
        go_wp2_with fail
        go_roundw
        case rel => exact ⟨k + 1, by omega, by go_num, by first | rfl | trivial, by first | rfl | trivial, HT1.out⟩
        case measure => simp [intOf]; omega
      · have e1 : decide ((70000 : Int) < (bs.length : Int)) = true := decide_eq_true (by omega)
        have HF : Hid (fewT l = false) := by
          have : l.all (fun x => decide (x.2.length ≤ 70000)) = false := by
            rw [List.all_eq_false]; exact ⟨_, List.mem_of_getElem? HX.out, by simpa using hc⟩
          show _ = _; unfold fewT; rw [this]; rfl
        clear hc
        go_wp2_with fail
        go_ret
        exact ⟨by rw [HF.out]; rfl, rfl⟩
    · obtain rfl : k = l.length := by omega
      have HF : Hid (fewT l = decide (l.length ≤ 40)) := by
        have := HT.out; rw [List.take_length] at this
        show _ = _; unfold fewT; rw [this, Bool.true_and]
      by_cases h40 : l.length ≤ 40
      · have e1 : decide ((l.length : Int) ≤ 40) = true := decide_eq_true (by omega)
        go_wp2_with fail
        go_ret
        exact ⟨by rw [HF.out, decide_eq_true h40]; rfl, rfl⟩
      · have e1 : decide ((l.length : Int) ≤ 40) = false := decide_eq_false (by omega)
        go_wp2_with fail
        go_ret
        exact ⟨by rw [HF.out, decide_eq_false h40]; rfl, rfl⟩


theorem ints_row {k : IntKind} {w w' : World} {v : Value} {zs : List Int} {row : Option Nat} (h : Ints k w v zs) (hg : w.grownBy w' row) (hr : 0 < zs.length → ∀ b, v.ownBlock = some b → some b ≠ row) : Ints k w' v zs := by
  obtain ⟨⟨a, cap, b, off, rfl, h2, h3, h4, h5, h6⟩, hw⟩ := h
  refine ⟨⟨a, cap, b, off, rfl, h2, h3, h4, h5, ?_⟩, hw⟩
  rcases Nat.eq_zero_or_pos zs.length with h0 | h0
  · intro i hi; simp at hi; omega
  · obtain rfl := h5 h0
    exact h6.grown hg (hr h0 b rfl)

theorem info_ref : (Try.prog.info? 31).map (fun i => (i.zero, i.size, i.bytes)) = some (some (.agg #[.int .i64 0, .slice none 0 0]), 2, 32) := by kernel_rfl

theorem law_items {v : Value} {l : List (Int × List Int)} {w : World} (h : RowsOf ItemR 2 w v l) (hl : l.length ≤ 1000000000) : Calls Try.prog 17 #[v] w fun e w' => ∃ r, e = .returned r ∧ RowsOf ItemR 2 w' r l ∧ Below w.heap.size w w' := by
  obtain ⟨a, cap, b, off, rfl, hcap, hmx, -, ha, hit⟩ := items_open h
  unfold maxLen at hmx
  have A := Lib.hid ha
  have HIt := Lib.hid hit
  clear h ha hit
  go_enter Try.func17, Try.ntmps17
  go_wp2_with fail
  go_loopw [3, 4] (fun r i wi => ∃ k : Nat, k ≤ l.length ∧ i = .int .i64 k ∧ Hid (OwnRows ItemR 31 2 w.heap.size wi r (l.take k)) ∧ Hid (Below w.heap.size w wi)) (fun _ i _ => l.length - (intOf i).toNat)
  case atStart => exact ⟨0, by omega, rfl, OwnRows.nil _ _ _ _ _, Below.refl _ _⟩
  case round =>
    obtain ⟨k, hk, rfl, HO, HB⟩ := hrel
    generalize hpre : l.take k = pre at HO
    have hpl : pre.length ≤ 1000000000 := by rw [← hpre]; simp; omega
    have HPre := Lib.hid hpre
    clear hpre
    obtain ⟨ar, capr, rfl⟩ := HO.out.slice
    by_cases hlt : k < l.length
    · obtain rfl := A.out (by omega)
      obtain ⟨⟨t, bs⟩, hx⟩ : ∃ x, l[k]? = some x := ⟨_, List.getElem?_eq_getElem hlt⟩
      obtain ⟨bv, x0, x1, hbv, hwf⟩ := HIt.out k t bs hx
      have hbl := hbv.le
      have hlow := fun h0 => own_low hbv h0
      have hbw := hbv.below HB.out
      have y0 := (HB.out.cell (World.block_lt_of_cell? _ _ x0)).trans x0
      have y1 := (HB.out.cell (World.block_lt_of_cell? _ _ x1)).trans x1
      obtain ⟨ab, capb, bb, ob, rfl, hc1, hc2, -⟩ := hbv.open
      have hsafe : ∀ w' row, wr.grownBy w' (Value.slice ar pre.length capr).ownBlock → (row = (Value.slice ar pre.length capr).ownBlock ∨ ∃ k', row = some k' ∧ wr.heap.size ≤ k') → Safe ItemR w' row (t, bs) [.int .i64 t, .slice ab bs.length capb] := fun w' row hg hr w'' hg' => by
        have hn : 0 < bs.length → ∀ b', (Value.slice ab bs.length capb).ownBlock = some b' → some b' ≠ (Value.slice ar pre.length capr).ownBlock := fun h0 b' hb' e => by
          have h1 := hlow h0 b' hb'
          obtain ⟨xs, ho, -⟩ := HO.out
          have h2 := (ho.lt b' e.symm).1
          omega
        refine ⟨_, rfl, ints_row (ints_row hbw hg hn) hg' (fun h0 b' hb' e => ?_), hwf⟩
        rcases hr with rfl | ⟨k', rfl, hk'⟩
        · exact hn h0 b' hb' e
        · have h1 := hlow h0 b' hb'
          have h3 := HB.out.size
          injection e with e
          omega
      have HSf := Lib.hid hsafe
      have HX := Lib.hid hx
      clear x0 x1 hx hbv hbw hsafe hlow
      go_wp2_with (at_builtin; refine wpList_append_row rfl _ _ _ rfl w.heap.size 31 (.agg #[.int .i64 0, .slice none 0 0]) 2 32 Try.underlying40 info_ref rfl (by decide) (.slice ar pre.length capr) pre (t, bs) rfl HO.out [.int .i64 t, .slice ab bs.length capb] rfl rfl (by simp [Value.oneCell']) (by unfold maxLen; omega) (by omega) HB.out.size HSf.out ?_; intro v' w2 hown hgrow; have HO2 := Lib.hid hown; have HB2 := Lib.hid (below_own HB.out HB.out.size HO.out hgrow); clear hown hgrow)
      go_roundw
      case rel => exact ⟨k + 1, by omega, by go_num, by rw [take_snoc' HX.out, HPre.out]; exact HO2.out, HB2.out⟩
      case measure => simp [intOf]; omega
    · obtain rfl : k = l.length := by omega
      go_wp2_with fail
      go_ret
      have := HO.out.rows
      rw [← HPre.out, List.take_length] at this
      rw [← HPre.out, List.take_length]
      exact ⟨_, rfl, this, HB.out⟩

end Go.Proofs.Ytoobcgakainelaa
namespace Go.Proofs.Ytoobcgakainelaa
open Go.RowKit
set_option maxRecDepth 100000
set_option maxHeartbeats 4000000

theorem quiet_some {P : Program} {f : FuncId} {args : Array Value} {w : World} {n : Nat} {v : Value} (h : Calls P f args (w.drewN n) fun e w' => e = .returned v ∧ ∃ q, w' = (w.drewN n).drewN q) : Calls P f args (w.drewN n) fun e w'' => e = .returned v ∧ ∃ m, w'' = w.drewN m :=
  h.mono fun _ _ ⟨h1, q, h2⟩ => ⟨h1, n + q, by rw [h2]; simp [World.drewN, Nat.add_assoc]⟩

theorem take_both {α : Type} {l m : List α} {k : Nat} {x : α} (h1 : l[k]? = some x) (h2 : m[k]? = some x) (ht : l.take k = m.take k) : l.take (k + 1) = m.take (k + 1) := by
  rw [take_snoc' h1, take_snoc' h2, ht]
theorem get_ne {α : Type} {l m : List α} {k : Nat} {x y : α} (h1 : l[k]? = some x) (h2 : m[k]? = some y) (hne : x ≠ y) : l ≠ m := by
  rintro rfl
  rw [h1] at h2
  injection h2 with h2
  exact hne h2

theorem ref_same {v1 v2 : Value} {l m : List (Int × List Int)} {w : World} (h1 : RowsOf ItemR 2 w v1 l) (h2 : RowsOf ItemR 2 w v2 m) : Calls Try.prog 16 #[v1, v2] w fun e w' => e = .returned (.bool (decide (l = m))) ∧ ∃ q, w' = w.drewN q := by
  obtain ⟨a, cap, b, off, rfl, hcap, hmx, -, ha, hit⟩ := items_open h1
  obtain ⟨a2, cap2, b2, off2, rfl, hcap2, hmx2, -, ha2, hit2⟩ := items_open h2
  unfold maxLen at hmx hmx2
  have A := Lib.hid ha
  have A2 := Lib.hid ha2
  have HIt := Lib.hid hit
  have HIt2 := Lib.hid hit2
  clear h1 h2 ha ha2 hit hit2
  by_cases hl : l.length = m.length
  · have e1 : ((l.length : Int) != (l.length : Int)) = false := by simp
    have HL := Lib.hid hl
    rw [← hl]
    clear hl
    go_enter Try.func16, Try.ntmps16
    go_wp2_with fail
    go_loopw [4, 5] (fun r i wr => ∃ k : Nat, k ≤ l.length ∧ i = .int .i64 k ∧ r = .bool false ∧ Hid (∃ q, wr = w.drewN q) ∧ Hid (l.take k = m.take k)) (fun _ i _ => l.length - (intOf i).toNat)
    case atStart => exact ⟨0, by omega, rfl, rfl, ⟨0, rfl⟩, rfl⟩
    case round =>
      obtain ⟨k, hk, rfl, rfl, HW, HT⟩ := hrel
      by_cases hlt : k < l.length
      · obtain rfl := A.out (by omega)
        obtain rfl := A2.out (by have := HL.out; omega)
        obtain ⟨⟨t, bs⟩, hx⟩ : ∃ x, l[k]? = some x := ⟨_, List.getElem?_eq_getElem hlt⟩
        obtain ⟨⟨t2, bs2⟩, hx2⟩ : ∃ x, m[k]? = some x := ⟨_, List.getElem?_eq_getElem (by have := HL.out; omega)⟩
        obtain ⟨bv, x0, x1, hbv, hwf⟩ := HIt.out k t bs hx
        obtain ⟨bv2, y0, y1, hbv2, hwf2⟩ := HIt2.out k t2 bs2 hx2
        have HX := Lib.hid hx
        have HX2 := Lib.hid hx2
        have hbw : Below w.heap.size w wr := by obtain ⟨q, hq⟩ := HW.out; rw [hq]; exact below_drewN (Below.refl _ _) _
        have x0 := (hbw.cell (World.block_lt_of_cell? _ _ x0)).trans x0
        have x1 := (hbw.cell (World.block_lt_of_cell? _ _ x1)).trans x1
        have y0 := (hbw.cell (World.block_lt_of_cell? _ _ y0)).trans y0
        have y1 := (hbw.cell (World.block_lt_of_cell? _ _ y1)).trans y1
        have HBy : Hid (∀ n, Calls Try.prog 15 #[bv, bv2] (wr.drewN n) fun e w' => e = .returned (.bool (decide (bs = bs2))) ∧ ∃ q, w' = (wr.drewN n).drewN q) := fun n => ref_bytes_q bv bv2 bs bs2 _ ((hbv.below hbw).below (below_drewN (Below.refl _ _) n)) ((hbv2.below hbw).below (below_drewN (Below.refl _ _) n))
        have hlt' : (k : Int) < l.length := by omega
        clear hx hx2 hbv hbv2 hbw
        by_cases ht : t = t2
        · subst ht
          have e3 : (t != t) = false := by simp
          by_cases hb : bs = bs2
          · subst hb
            rw [decide_eq_true rfl] at HBy
            go_wp2_with fail
            go_quiet ((go_at_call 15; exact quiet_some (HBy.out _)))
            go_wp2_with fail
            go_roundw
            case rel => exact ⟨k + 1, by omega, by go_num, rfl, by obtain ⟨q, hq⟩ := HW.out; exact ⟨q + nq, by rw [hq]; simp [World.drewN, Nat.add_assoc]⟩, take_both HX.out HX2.out HT.out⟩
            case measure => simp [intOf]; omega
          · have HNE : Hid (decide (l = m) = false) := decide_eq_false (get_ne HX.out HX2.out (fun e => hb (by injection e)))
            rw [decide_eq_false hb] at HBy
            clear hb
            go_wp2_with fail
            go_quiet ((go_at_call 15; exact quiet_some (HBy.out _)))
            go_wp2_with fail
            go_ret
            exact ⟨by rw [HNE.out]; rfl, by obtain ⟨q, hq⟩ := HW.out; exact ⟨q + nq, by rw [hq]; simp [World.drewN, Nat.add_assoc]⟩⟩
        · have HNE : Hid (decide (l = m) = false) := decide_eq_false (get_ne HX.out HX2.out (fun e => ht (by injection e)))
          have e3 : (t != t2) = true := by simpa using ht
          clear ht
          go_wp2_with fail
          go_quiet (fail)
          go_wp2_with fail
          go_ret
          exact ⟨by rw [HNE.out]; rfl, by obtain ⟨q, hq⟩ := HW.out; exact ⟨q + nq, by rw [hq]; simp [World.drewN, Nat.add_assoc]⟩⟩
      · obtain rfl : k = l.length := by omega
        have HE : Hid (decide (l = m) = true) := by
          have := HT.out
          rw [List.take_length, HL.out, List.take_length] at this
          exact decide_eq_true this
        go_wp2_with fail
        go_ret
        exact ⟨by rw [HE.out]; rfl, HW.out⟩
  · have HNE : Hid (decide (l = m) = false) := decide_eq_false (fun e => hl (by rw [e]))
    have hb : ((l.length : Int) != (m.length : Int)) = true := by simp; omega
    clear hl
    go_enter Try.func16, Try.ntmps16
    go_wp2
    go_ret
    exact ⟨by rw [HNE.out]; rfl, 0, rfl⟩

end Go.Proofs.Ytoobcgakainelaa
namespace Go.Proofs.Ytoobcgakainelaa
open Go.RowKit
set_option maxRecDepth 100000
set_option maxHeartbeats 4000000

def su4 : Sh := ⟨4, 8, true, 263, 269⟩
theorem su4_cut : su4.cut [0, 1, 0, 6, 9, 9, 0, 0] = ([(1, [9, 9])], 0) := by decide
theorem su4_join : su4.join [(1, [9, 9])] = ([0, 1, 0, 6, 9, 9, 0, 0], 0) := by decide
theorem su4_bad : su4.cut [0, 1, 0, 6, 9, 9, 0, 1] = ([], 269) := by decide

/-- A literal row of one thing. -/
theorem one_item {w : World} {t : Int} {ab : Option Addr} {m capb : Nat} {zs : List Int} (e : TypeId) (h : Ints .u8 w (.slice ab m capb) zs) (ht : (Lit.int .i64 t).wf = true) :
    RowsOf ItemR 2 (w.alloc (.cells #[.int .i64 t, .slice ab m capb] e)) (.slice (some ⟨w.heap.size, 0, none⟩) 1 1) [(t, zs)] := by
  refine ⟨_, 1, w.heap.size, 0, rfl, by simp, by unfold maxLen; omega, by simp, fun _ => rfl, fun i x hi => ?_⟩
  cases i with
  | zero =>
    have e' : (t, zs) = x := by simpa using hi
    subst e'
    refine ⟨[.int .i64 t, .slice ab m capb], rfl, ⟨_, rfl, h.alloc _, ht⟩, fun j u hu => ?_⟩
    have hb := heap_alloc_new w (.cells #[.int .i64 t, .slice ab m capb] e)
    match j, hu with
    | 0, hu => simp at hu; subst hu; exact cell_row hb 0
    | 1, hu => simp at hu; subst hu; exact cell_row hb 1
  | succ i => simp at hi

theorem sure04 (w : World) : Calls Try.prog 9 #[] w fun e w' => e = .returned (.bool true) ∧ Below w.heap.size w w' := by
  have H0 := Lib.hid (Sh1.start w su4)
  go_enter Try.func9, Try.ntmps9
  go_wp2_with fail
  have hc := tlv_cut (s := su4) (Ints.lit .u8 (w.alloc (.cells #[.int .i64 4, .int .i64 8, .bool true, .int .i64 263, .int .i64 269] 24)) 5 [0, 1, 0, 6, 9, 9, 0, 0] (w.heap.size + 1) (by simp) (by decide) (by decide)) (by decide)
  refine hc.mono ?_
  clear hc
  rintro e w2 ⟨v, rfl, ho, hb⟩
  rw [su4_cut] at ho ⊢
  have H2 := Lib.hid ((H0.out.step (below_alloc2 _) H0.out.size).step hb (by have := H0.out.size; simp))
  have HL2 := Lib.hid ho.rows
  obtain ⟨av, capv, rfl⟩ := ho.slice
  obtain ⟨c0, c1, c2, c3, c4⟩ := H2.out.cells
  clear ho hb
  go_wp2_with fail
  have hj := tlv_join (s := su4) (one_item (w := w2.alloc (.cells #[.int .u8 9, .int .u8 9] 5)) (t := 1) 28 (Ints.lit .u8 w2 5 [9, 9] _ rfl (by decide) (by decide)) (by decide)) (by decide) (by decide)
  rw [World.size_alloc] at hj
  refine hj.mono ?_
  clear hj
  rintro e w3 ⟨v2, rfl, ho, hu, hb⟩
  rw [su4_join] at ho hu ⊢
  have hb' := ((below_alloc2 (w := w2) (.cells #[.int .u8 9, .int .u8 9] 5)).trans ((below_alloc2 (.cells #[.int .i64 1, .slice (some ⟨w2.heap.size, 0, none⟩) 2 2] 28)).mono (by simp))).trans (hb.mono (by simp; omega))
  have H3 := Lib.hid (H2.out.step hb' H2.out.size)
  have HL3 := Lib.hid (HL2.out.below ItemR.lasts hb')
  have HV3 := Lib.hid (Ints.of_own ho hu.wf)
  obtain ⟨av2, capv2, rfl⟩ := own_slice ho
  clear ho hu hb hb' c0 c1 c2 c3 c4
  obtain ⟨c0, c1, c2, c3, c4⟩ := H3.out.cells
  go_wp2_with fail
  have hc := tlv_cut (s := su4) (Ints.lit .u8 w3 5 [0, 1, 0, 6, 9, 9, 0, 1] _ rfl (by decide) (by decide)) (by decide)
  refine hc.mono ?_
  clear hc
  rintro e w4 ⟨v3, rfl, ho, hb⟩
  rw [su4_bad] at ho ⊢
  have hb' := (below_alloc2 (w := w3) (.cells #[.int .u8 0, .int .u8 1, .int .u8 0, .int .u8 6, .int .u8 9, .int .u8 9, .int .u8 0, .int .u8 1] 5)).trans (hb.mono (by simp))
  have H4 := Lib.hid (H3.out.step hb' H3.out.size)
  have HL4 := Lib.hid (HL3.out.below ItemR.lasts hb')
  have HV4 := Lib.hid (HV3.out.below hb')
  obtain ⟨av3, capv3, rfl⟩ := ho.slice
  clear ho hb hb' c0 c1 c2 c3 c4
  obtain ⟨a, cap, b, off, e, hcap, hmx, -, ha, hit⟩ := items_open HL4.out
  injection e with e1 e2 e3
  subst e1 e3
  obtain rfl := ha (by simp)
  obtain ⟨bv, k0, k1, hbv, -⟩ := hit 0 1 [9, 9] rfl
  rw [Nat.zero_mul, Nat.add_zero] at k0 k1
  obtain ⟨ab, capb, bb, ob, rfl, -⟩ := hbv.open
  have HB4 := Lib.hid hbv
  clear ha hit hbv e2
  go_wp2_with fail
  refine (ref_bytes _ _ [9, 9] [9, 9] _ (HB4.out.alloc _) (Ints.lit .u8 w4 5 [9, 9] _ rfl (by decide) (by decide))).mono ?_
  rintro e w5 ⟨rfl, hb⟩
  have hb5 := (below_alloc2 (w := w4) (.cells #[.int .u8 9, .int .u8 9] 5)).trans (hb.mono (by simp))
  have HB5 := Lib.hid (H4.out.below.trans (hb5.mono H4.out.below.size))
  have HV5 := Lib.hid (HV4.out.below hb5)
  clear hb hb5
  rw [show decide (([9, 9] : List Int) = [9, 9]) = true by decide]
  go_wp2_with fail
  refine (ref_bytes _ _ [0, 1, 0, 6, 9, 9, 0, 0] [0, 1, 0, 6, 9, 9, 0, 0] _ (HV5.out.alloc _) (Ints.lit .u8 w5 5 [0, 1, 0, 6, 9, 9, 0, 0] _ rfl (by decide) (by decide))).mono ?_
  rintro e w6 ⟨rfl, hb⟩
  have hb6 := (below_alloc2 (w := w5) (.cells #[.int .u8 0, .int .u8 1, .int .u8 0, .int .u8 6, .int .u8 9, .int .u8 9, .int .u8 0, .int .u8 0] 5)).trans (hb.mono (by simp))
  have HB6 := Lib.hid (HB5.out.trans (hb6.mono HB5.out.size))
  clear hb hb6
  rw [show decide (([0, 1, 0, 6, 9, 9, 0, 0] : List Int) = [0, 1, 0, 6, 9, 9, 0, 0]) = true by decide]
  go_wp2_with fail
  go_ret
  exact ⟨rfl, HB6.out⟩

end Go.Proofs.Ytoobcgakainelaa
namespace Go.Proofs.Ytoobcgakainelaa
open Go.RowKit

theorem join_ok {s : Sh} {l : List (Int × List Int)} (h : (s.join l).2 = 0) : s.may = true ∧ l.all s.good = true ∧ (s.join l).1 = s.all l := by
  unfold Sh.join at h ⊢
  split at h
  · rename_i hc
    rw [if_pos hc]
    simp only [Bool.and_eq_true] at hc
    exact ⟨hc.1, hc.2, rfl⟩
  · simp at h
theorem cut_ok {s : Sh} {bs : List Int} (hb : U8 bs) (h : (s.cut bs).2 = 0) : s.may = true ∧ (s.cut bs).1.all s.good = true ∧ s.all (s.cut bs).1 = bs ∧ s.join (s.cut bs).1 = (bs, 0) := by
  have h1 := Sh.join_cut hb h
  have h2 := join_ok (s := s) (l := (s.cut bs).1) (by rw [h1])
  exact ⟨h2.1, h2.2.1, by rw [← h2.2.2, h1], h1⟩
theorem Sh.all_ge {s : Sh} (l : List (Int × List Int)) : l.length ≤ (s.all l).length := by
  induction l with
  | nil => simp
  | cons x l ih =>
    have e : s.all (x :: l) = s.thing x ++ s.all l := by simp [Sh.all]
    rw [e, List.length_append, s.thing_len, List.length_cons]
    omega
theorem Sh.all_at {s : Sh} {l : List (Int × List Int)} {k : Nat} {x : Int × List Int} (h : l[k]? = some x) : (s.all l).drop (s.all (l.take k)).length = s.thing x ++ s.all (l.drop (k + 1)) := by
  have hk := (List.getElem?_eq_some_iff.1 h).1
  have e : l = l.take k ++ x :: l.drop (k + 1) := by
    have h1 := (List.take_append_drop k l).symm
    have h2 : l.drop k = x :: l.drop (k + 1) := by rw [List.drop_eq_getElem_cons hk, (List.getElem?_eq_some_iff.1 h).2]
    rw [h2] at h1
    exact h1
  have e2 : s.all l = s.all (l.take k) ++ (s.thing x ++ s.all (l.drop (k + 1))) := by
    conv => lhs; rw [e]
    simp [Sh.all]
  rw [e2, List.drop_left' rfl]
theorem Sh.one_at {s : Sh} {l : List (Int × List Int)} {k : Nat} {x : Int × List Int} (hm : s.may = true) (hg : l.all s.good = true) (h : l[k]? = some x) : s.one ((s.all l).drop (s.all (l.take k)).length) = (x, (s.thing x).length, 0) ∧ (s.all (l.take k)).length + (s.thing x).length ≤ (s.all l).length ∧ (s.all (l.take (k + 1))).length = (s.all (l.take k)).length + (s.thing x).length := by
  have h1 := Sh.all_at (s := s) h
  refine ⟨by rw [h1]; exact Sh.one_thing hm (List.all_eq_true.1 hg _ (List.mem_of_getElem? h)) _, ?_, by rw [take_snoc' h, Sh.all_snoc, List.length_append]⟩
  have h2 : ((s.all l).drop (s.all (l.take k)).length).length = (s.thing x ++ s.all (l.drop (k + 1))).length := by rw [h1]
  rw [List.length_drop, List.length_append] at h2
  have h3 := s.thing_len x
  omega
theorem few_bodies {l : List (Int × List Int)} (h : fewT l = true) : l.length ≤ 40 ∧ ∀ x ∈ l, x.2.length ≤ 70000 := by
  unfold fewT at h
  simp only [Bool.and_eq_true, decide_eq_true_eq] at h
  exact ⟨h.2, fun x hx => by have := List.all_eq_true.1 h.1 x hx; simpa using this⟩
theorem good_bodies {s : Sh} {l : List (Int × List Int)} (h : l.all s.good = true) : ∀ x ∈ l, x.2.length ≤ 70000 := fun x hx => by
  have := List.all_eq_true.1 h x hx
  simp only [Sh.good, Bool.and_eq_true, decide_eq_true_eq] at this
  omega
theorem cell_at0 {w : World} {X : Nat} {x y : Value} {t : TypeId} {fr : Nat × Nat} (h : w.heap[X]? = some (.cells #[x, y] t fr)) : w.cell? ⟨X, 0, none⟩ = some x := cell_row h 0
theorem Sh1.cell {w w' : World} {s : Sh} (h : Sh1 w s w') (w2 : World) (hb : Below w'.heap.size w' w2) : Sh1 w s w2 := h.step hb h.size
end Go.Proofs.Ytoobcgakainelaa
