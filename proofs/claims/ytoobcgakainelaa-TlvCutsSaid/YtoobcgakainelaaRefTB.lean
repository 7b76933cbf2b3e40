/- The law's plain, few, items; whether two rows of things are the same. Conditions: those of each lemma. -/
import Derived.Test.YtoobcgakainelaaRefTA
import Derived.Great.Walk
import Derived.Deep.QuietTactic
namespace Go.Proofs.Ytoobcgakainelaa
open Go.RowKit
set_option maxRecDepth 100000
set_option maxHeartbeats 4000000

theorem res_row1 {P : Program} {fn : Func} {p : Tmp} {ty : TypeId} (h : fn.results = #[.cell p ty]) (tmps : Array Value) (w : World) (g : Nat) (t : TypeId) (cs : Array Value) (fr : Nat × Nat) (d : TypeDesc)
    (hp : tmps.getD p undef = .pointer (some ⟨g, 0, none⟩)) (hg : w.heap[g]? = some (.cells cs t fr))
    (hu : P.underlying ty = some d) (hd : (match d with | .struct _ | .array _ _ => true | _ => false) = true) (hi : (P.info? ty).map (·.size) = some cs.size) :
    (results fn tmps).run P w = .ok (.agg cs) w := by
  have hp' : tmps[p]?.getD undef = .pointer (some ⟨g, 0, none⟩) := by simpa using hp
  simp [results, h, hp', asAddr, run_loadVar_row w g t ty cs fr d hg hu hd hi]

theorem law_plain (s : Sh) (w : World) : Calls Try.prog 12 #[s.val] w fun e w' => e = .returned s.val ∧ Below w.heap.size w w' := by
  simp only [Sh.val]
  go_enter Try.func12, Try.ntmps12
  go_wp2
  have hh := heap_alloc_new (w.alloc (.cells #[.int .i64 s.least, .int .i64 s.step, .bool s.pad, .int .i64 s.bad, .int .i64 s.odd] 24)) (.cells #[.int .i64 s.least, .int .i64 s.step, .bool s.pad, .int .i64 s.bad, .int .i64 s.odd] 35)
  rw [World.size_alloc] at hh
  refine bodyPost_ret (res_row1 rfl _ _ (w.heap.size + 1) _ _ _ _ rfl hh Try.underlying35 rfl (by kernel_rfl)) rfl ?_
  exact ⟨rfl, (below_alloc2 _).alloc (by simp) _⟩

/-- Are there few things? -/
def fewT (l : List (Int × List Int)) : Bool := l.all (fun x => decide (x.2.length ≤ 70000)) && decide (l.length ≤ 40)
theorem law_few {v : Value} {l : List (Int × List Int)} {w : World} (h : RowsOf ItemR 2 w v l) : Calls Try.prog 18 #[v] w fun e w' => e = .returned (.bool (fewT l)) ∧ w = w' := by
  obtain ⟨a, cap, b, off, rfl, hcap, hmx, -, ha, hit⟩ := items_open h
  unfold maxLen at hmx
  have A := Lib.hid ha
  have HIt := Lib.hid hit
  clear h ha hit
  go_enter Try.func18, Try.ntmps18
  go_wp2_with fail
  go_loopw [2, 3] (fun r i wi => ∃ k : Nat, k ≤ l.length ∧ i = .int .i64 k ∧ r = .bool false ∧ wi = w ∧ Hid ((l.take k).all (fun x => decide (x.2.length ≤ 70000)) = true)) (fun _ i _ => l.length - (intOf i).toNat)
  case atStart => exact ⟨0, by omega, rfl, rfl, rfl, rfl⟩
  case round =>
    obtain ⟨k, hk, rfl, rfl, rfl, HT⟩ := hrel
    by_cases hlt : k < l.length
    · obtain rfl := A.out (by omega)
      obtain ⟨⟨t, bs⟩, hx⟩ : ∃ x, l[k]? = some x := ⟨_, List.getElem?_eq_getElem hlt⟩
      obtain ⟨bv, x0, x1, hbv, hwf⟩ := HIt.out k t bs hx
      have hbl := hbv.le
      obtain ⟨ab, capb, bb, ob, rfl, hc1, hc2, -⟩ := hbv.open
      have HX := Lib.hid hx
      clear hbv hx
      by_cases hc : bs.length ≤ 70000
      · have e1 : decide ((70000 : Int) < (bs.length : Int)) = false := decide_eq_false (by omega)
        have HT1 : Hid ((l.take (k + 1)).all (fun x => decide (x.2.length ≤ 70000)) = true) := by rw [Hid, take_snoc' HX.out, List.all_append, HT.out]; simp [hc]
        go_wp2_with fail
        go_roundw
        case rel => exact ⟨k + 1, by omega, by go_num, by first | rfl | trivial, by first | rfl | trivial, HT1.out⟩
        case measure => simp [intOf]; omega
      · have e1 : decide ((70000 : Int) < (bs.length : Int)) = true := decide_eq_true (by omega)
        have HF : Hid (fewT l = false) := by
          have : l.all (fun x => decide (x.2.length ≤ 70000)) = false := by
            rw [List.all_eq_false]; exact ⟨_, List.mem_of_getElem? HX.out, by simpa using hc⟩
          show _ = _; unfold fewT; rw [this]; rfl
        clear hc
        go_wp2_with fail
        go_ret
        exact ⟨by rw [HF.out]; rfl, rfl⟩
    · obtain rfl : k = l.length := by omega
      have HF : Hid (fewT l = decide (l.length ≤ 40)) := by
        have := HT.out; rw [List.take_length] at this
        show _ = _; unfold fewT; rw [this, Bool.true_and]
      by_cases h40 : l.length ≤ 40
      · have e1 : decide ((l.length : Int) ≤ 40) = true := decide_eq_true (by omega)
        go_wp2_with fail
        go_ret
        exact ⟨by rw [HF.out, decide_eq_true h40]; rfl, rfl⟩
      · have e1 : decide ((l.length : Int) ≤ 40) = false := decide_eq_false (by omega)
        go_wp2_with fail
        go_ret
        exact ⟨by rw [HF.out, decide_eq_false h40]; rfl, rfl⟩


theorem ints_row {k : IntKind} {w w' : World} {v : Value} {zs : List Int} {row : Option Nat} (h : Ints k w v zs) (hg : w.grownBy w' row) (hr : 0 < zs.length → ∀ b, v.ownBlock = some b → some b ≠ row) : Ints k w' v zs := by
  obtain ⟨⟨a, cap, b, off, rfl, h2, h3, h4, h5, h6⟩, hw⟩ := h
  refine ⟨⟨a, cap, b, off, rfl, h2, h3, h4, h5, ?_⟩, hw⟩
  rcases Nat.eq_zero_or_pos zs.length with h0 | h0
  · intro i hi; simp at hi; omega
  · obtain rfl := h5 h0
    exact h6.grown hg (hr h0 b rfl)

theorem info_ref : (Try.prog.info? 31).map (fun i => (i.zero, i.size, i.bytes)) = some (some (.agg #[.int .i64 0, .slice none 0 0]), 2, 32) := by kernel_rfl

theorem law_items {v : Value} {l : List (Int × List Int)} {w : World} (h : RowsOf ItemR 2 w v l) (hl : l.length ≤ 1000000000) : Calls Try.prog 17 #[v] w fun e w' => ∃ r, e = .returned r ∧ RowsOf ItemR 2 w' r l ∧ Below w.heap.size w w' := by
  obtain ⟨a, cap, b, off, rfl, hcap, hmx, -, ha, hit⟩ := items_open h
  unfold maxLen at hmx
  have A := Lib.hid ha
  have HIt := Lib.hid hit
  clear h ha hit
  go_enter Try.func17, Try.ntmps17
  go_wp2_with fail
  go_loopw [3, 4] (fun r i wi => ∃ k : Nat, k ≤ l.length ∧ i = .int .i64 k ∧ Hid (OwnRows ItemR 31 2 w.heap.size wi r (l.take k)) ∧ Hid (Below w.heap.size w wi)) (fun _ i _ => l.length - (intOf i).toNat)
  case atStart => exact ⟨0, by omega, rfl, OwnRows.nil _ _ _ _ _, Below.refl _ _⟩
  case round =>
    obtain ⟨k, hk, rfl, HO, HB⟩ := hrel
    generalize hpre : l.take k = pre at HO
    have hpl : pre.length ≤ 1000000000 := by rw [← hpre]; simp; omega
    have HPre := Lib.hid hpre
    clear hpre
    obtain ⟨ar, capr, rfl⟩ := HO.out.slice
    by_cases hlt : k < l.length
    · obtain rfl := A.out (by omega)
      obtain ⟨⟨t, bs⟩, hx⟩ : ∃ x, l[k]? = some x := ⟨_, List.getElem?_eq_getElem hlt⟩
      obtain ⟨bv, x0, x1, hbv, hwf⟩ := HIt.out k t bs hx
      have hbl := hbv.le
      have hlow := fun h0 => own_low hbv h0
      have hbw := hbv.below HB.out
      have y0 := (HB.out.cell (World.block_lt_of_cell? _ _ x0)).trans x0
      have y1 := (HB.out.cell (World.block_lt_of_cell? _ _ x1)).trans x1
      obtain ⟨ab, capb, bb, ob, rfl, hc1, hc2, -⟩ := hbv.open
      have hsafe : ∀ w' row, wr.grownBy w' (Value.slice ar pre.length capr).ownBlock → (row = (Value.slice ar pre.length capr).ownBlock ∨ ∃ k', row = some k' ∧ wr.heap.size ≤ k') → Safe ItemR w' row (t, bs) [.int .i64 t, .slice ab bs.length capb] := fun w' row hg hr w'' hg' => by
        have hn : 0 < bs.length → ∀ b', (Value.slice ab bs.length capb).ownBlock = some b' → some b' ≠ (Value.slice ar pre.length capr).ownBlock := fun h0 b' hb' e => by
          have h1 := hlow h0 b' hb'
          obtain ⟨xs, ho, -⟩ := HO.out
          have h2 := (ho.lt b' e.symm).1
          omega
        refine ⟨_, rfl, ints_row (ints_row hbw hg hn) hg' (fun h0 b' hb' e => ?_), hwf⟩
        rcases hr with rfl | ⟨k', rfl, hk'⟩
        · exact hn h0 b' hb' e
        · have h1 := hlow h0 b' hb'
          have h3 := HB.out.size
          injection e with e
          omega
      have HSf := Lib.hid hsafe
      have HX := Lib.hid hx
      clear x0 x1 hx hbv hbw hsafe hlow
      go_wp2_with (at_builtin; refine wpList_append_row rfl _ _ _ rfl w.heap.size 31 (.agg #[.int .i64 0, .slice none 0 0]) 2 32 Try.underlying40 info_ref rfl (by decide) (.slice ar pre.length capr) pre (t, bs) rfl HO.out [.int .i64 t, .slice ab bs.length capb] rfl rfl (by simp [Value.oneCell']) (by unfold maxLen; omega) (by omega) HB.out.size HSf.out ?_; intro v' w2 hown hgrow; have HO2 := Lib.hid hown; have HB2 := Lib.hid (below_own HB.out HB.out.size HO.out hgrow); clear hown hgrow)
      go_roundw
      case rel => exact ⟨k + 1, by omega, by go_num, by rw [take_snoc' HX.out, HPre.out]; exact HO2.out, HB2.out⟩
      case measure => simp [intOf]; omega
    · obtain rfl : k = l.length := by omega
      go_wp2_with fail
      go_ret
      have := HO.out.rows
      rw [← HPre.out, List.take_length] at this
      rw [← HPre.out, List.take_length]
      exact ⟨_, rfl, this, HB.out⟩

end Go.Proofs.Ytoobcgakainelaa
