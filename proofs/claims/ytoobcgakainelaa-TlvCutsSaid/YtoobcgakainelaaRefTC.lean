/- Whether two rows of things are the same; the fixed calls of the fourth chapter come out true. Conditions: those of each lemma. -/
import Derived.Test.YtoobcgakainelaaRefTB
namespace Go.Proofs.Ytoobcgakainelaa
open Go.RowKit
set_option maxRecDepth 100000
set_option maxHeartbeats 4000000

theorem quiet_some {P : Program} {f : FuncId} {args : Array Value} {w : World} {n : Nat} {v : Value} (h : Calls P f args (w.drewN n) fun e w' => e = .returned v ∧ ∃ q, w' = (w.drewN n).drewN q) : Calls P f args (w.drewN n) fun e w'' => e = .returned v ∧ ∃ m, w'' = w.drewN m :=
  h.mono fun _ _ ⟨h1, q, h2⟩ => ⟨h1, n + q, by rw [h2]; simp [World.drewN, Nat.add_assoc]⟩

theorem take_both {α : Type} {l m : List α} {k : Nat} {x : α} (h1 : l[k]? = some x) (h2 : m[k]? = some x) (ht : l.take k = m.take k) : l.take (k + 1) = m.take (k + 1) := by
  rw [take_snoc' h1, take_snoc' h2, ht]
theorem get_ne {α : Type} {l m : List α} {k : Nat} {x y : α} (h1 : l[k]? = some x) (h2 : m[k]? = some y) (hne : x ≠ y) : l ≠ m := by
  rintro rfl
  rw [h1] at h2
  injection h2 with h2
  exact hne h2

theorem ref_same {v1 v2 : Value} {l m : List (Int × List Int)} {w : World} (h1 : RowsOf ItemR 2 w v1 l) (h2 : RowsOf ItemR 2 w v2 m) : Calls Try.prog 16 #[v1, v2] w fun e w' => e = .returned (.bool (decide (l = m))) ∧ ∃ q, w' = w.drewN q := by
  obtain ⟨a, cap, b, off, rfl, hcap, hmx, -, ha, hit⟩ := items_open h1
  obtain ⟨a2, cap2, b2, off2, rfl, hcap2, hmx2, -, ha2, hit2⟩ := items_open h2
  unfold maxLen at hmx hmx2
  have A := Lib.hid ha
  have A2 := Lib.hid ha2
  have HIt := Lib.hid hit
  have HIt2 := Lib.hid hit2
  clear h1 h2 ha ha2 hit hit2
  by_cases hl : l.length = m.length
  · have e1 : ((l.length : Int) != (l.length : Int)) = false := by simp
    have HL := Lib.hid hl
    rw [← hl]
    clear hl
    go_enter Try.func16, Try.ntmps16
    go_wp2_with fail
    go_loopw [4, 5] (fun r i wr => ∃ k : Nat, k ≤ l.length ∧ i = .int .i64 k ∧ r = .bool false ∧ Hid (∃ q, wr = w.drewN q) ∧ Hid (l.take k = m.take k)) (fun _ i _ => l.length - (intOf i).toNat)
    case atStart => exact ⟨0, by omega, rfl, rfl, ⟨0, rfl⟩, rfl⟩
    case round =>
      obtain ⟨k, hk, rfl, rfl, HW, HT⟩ := hrel
      by_cases hlt : k < l.length
      · obtain rfl := A.out (by omega)
        obtain rfl := A2.out (by have := HL.out; omega)
        obtain ⟨⟨t, bs⟩, hx⟩ : ∃ x, l[k]? = some x := ⟨_, List.getElem?_eq_getElem hlt⟩
        obtain ⟨⟨t2, bs2⟩, hx2⟩ : ∃ x, m[k]? = some x := ⟨_, List.getElem?_eq_getElem (by have := HL.out; omega)⟩
        obtain ⟨bv, x0, x1, hbv, hwf⟩ := HIt.out k t bs hx
        obtain ⟨bv2, y0, y1, hbv2, hwf2⟩ := HIt2.out k t2 bs2 hx2
        have HX := Lib.hid hx
        have HX2 := Lib.hid hx2
        have hbw : Below w.heap.size w wr := by obtain ⟨q, hq⟩ := HW.out; rw [hq]; exact below_drewN (Below.refl _ _) _
        have x0 := (hbw.cell (World.block_lt_of_cell? _ _ x0)).trans x0
        have x1 := (hbw.cell (World.block_lt_of_cell? _ _ x1)).trans x1
        have y0 := (hbw.cell (World.block_lt_of_cell? _ _ y0)).trans y0
        have y1 := (hbw.cell (World.block_lt_of_cell? _ _ y1)).trans y1
        have HBy : Hid (∀ n, Calls Try.prog 15 #[bv, bv2] (wr.drewN n) fun e w' => e = .returned (.bool (decide (bs = bs2))) ∧ ∃ q, w' = (wr.drewN n).drewN q) := fun n => ref_bytes_q bv bv2 bs bs2 _ ((hbv.below hbw).below (below_drewN (Below.refl _ _) n)) ((hbv2.below hbw).below (below_drewN (Below.refl _ _) n))
        have hlt' : (k : Int) < l.length := by omega
        clear hx hx2 hbv hbv2 hbw
        by_cases ht : t = t2
        · subst ht
          have e3 : (t != t) = false := by simp
          by_cases hb : bs = bs2
          · subst hb
            rw [decide_eq_true rfl] at HBy
            go_wp2_with fail
            go_quiet ((go_at_call 15; exact quiet_some (HBy.out _)))
            go_wp2_with fail
            go_roundw
            case rel => exact ⟨k + 1, by omega, by go_num, rfl, by obtain ⟨q, hq⟩ := HW.out; exact ⟨q + nq, by rw [hq]; simp [World.drewN, Nat.add_assoc]⟩, take_both HX.out HX2.out HT.out⟩
            case measure => simp [intOf]; omega
          · have HNE : Hid (decide (l = m) = false) := decide_eq_false (get_ne HX.out HX2.out (fun e => hb (by injection e)))
            rw [decide_eq_false hb] at HBy
            clear hb
            go_wp2_with fail
            go_quiet ((go_at_call 15; exact quiet_some (HBy.out _)))
            go_wp2_with fail
            go_ret
            exact ⟨by rw [HNE.out]; rfl, by obtain ⟨q, hq⟩ := HW.out; exact ⟨q + nq, by rw [hq]; simp [World.drewN, Nat.add_assoc]⟩⟩
        · have HNE : Hid (decide (l = m) = false) := decide_eq_false (get_ne HX.out HX2.out (fun e => ht (by injection e)))
          have e3 : (t != t2) = true := by simpa using ht
          clear ht
          go_wp2_with fail
          go_quiet (fail)
          go_wp2_with fail
          go_ret
          exact ⟨by rw [HNE.out]; rfl, by obtain ⟨q, hq⟩ := HW.out; exact ⟨q + nq, by rw [hq]; simp [World.drewN, Nat.add_assoc]⟩⟩
      · obtain rfl : k = l.length := by omega
        have HE : Hid (decide (l = m) = true) := by
          have := HT.out
          rw [List.take_length, HL.out, List.take_length] at this
          exact decide_eq_true this
        go_wp2_with fail
        go_ret
        exact ⟨by rw [HE.out]; rfl, HW.out⟩
  · have HNE : Hid (decide (l = m) = false) := decide_eq_false (fun e => hl (by rw [e]))
    have hb : ((l.length : Int) != (m.length : Int)) = true := by simp; omega
    clear hl
    go_enter Try.func16, Try.ntmps16
    go_wp2
    go_ret
    exact ⟨by rw [HNE.out]; rfl, 0, rfl⟩

end Go.Proofs.Ytoobcgakainelaa
