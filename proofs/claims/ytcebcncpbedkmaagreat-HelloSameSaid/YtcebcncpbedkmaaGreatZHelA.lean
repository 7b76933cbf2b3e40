/- The walks of hello.wrong, of the document's wrong, of slices.IndexFunc and slices.ContainsFunc with hello.wrong. Conditions: none. -/
import Derived.Test.YtcebcncpbedkmaaGreatZHelP
import Derived.Test.YtcebcncpbedkmaaGreatZCurA
import Derived.Test.YtcebcncpbedkmaaGreatZTlvE
namespace Go.Proofs.YtcebcncpbedkmaaGreat
open Go.RowKit
set_option maxRecDepth 100000
set_option maxHeartbeats 4000000

def GotEq (b : Bool) (w : World) (e : Ending) (w' : World) : Prop := e = .returned (.bool b) ∧ Below w.heap.size w w'
theorem hel_wrong {t : Int} {bv : Value} {bs : List Int} {w : World} (h : Ints .u8 w bv bs) : Calls Tryz.prog 64 #[.agg #[.int .i64 t, bv]] w (GotEq (wrongE (t, bs)) w) := by
  obtain ⟨a, c, b, o, rfl, -⟩ := h.open
  have hle := h.le
  have HB : Hid (Below w.heap.size w (w.alloc (.cells #[.int .i64 t, .slice a bs.length c] 40))) := below_alloc2 _
  clear h
  unfold GotEq
  by_cases ht : t = 1
  · subst ht
    by_cases hm : bs.length % 4 = 0
    · have e2 : (bs.length : Int) % 4 = 0 := by omega
      by_cases hb : 65000 < bs.length
      · have e3 : (65000 : Int) < (bs.length : Int) := by omega
        have hq : Hid (wrongE (1, bs) = true) := by show _ = _; simp [wrongE, hb]
        clear hm hb
        go_enter Tryz.func64, Tryz.ntmps64
        go_wp2_with fail
        go_ret
        exact ⟨by rw [hq.out]; rfl, HB.out⟩
      · have e3 : ¬ (65000 : Int) < (bs.length : Int) := by omega
        have hq : Hid (wrongE (1, bs) = false) := by show _ = _; simp [wrongE, hm]; omega
        clear hm hb
        go_enter Tryz.func64, Tryz.ntmps64
        go_wp2_with fail
        go_ret
        exact ⟨by rw [hq.out]; rfl, HB.out⟩
    · have e2 : ¬ (bs.length : Int) % 4 = 0 := by omega
      have hq : Hid (wrongE (1, bs) = true) := by show _ = _; simp [wrongE, hm]
      clear hm
      go_enter Tryz.func64, Tryz.ntmps64
      go_wp2_with fail
      go_ret
      exact ⟨by rw [hq.out]; rfl, HB.out⟩
  · have e1 : (t == 1) = false := by simpa using ht
    by_cases hb : 65000 < bs.length
    · have e3 : (65000 : Int) < (bs.length : Int) := by omega
      have hq : Hid (wrongE (t, bs) = true) := by show _ = _; simp [wrongE, hb]
      clear ht hb
      go_enter Tryz.func64, Tryz.ntmps64
      go_wp2_with fail
      go_ret
      exact ⟨by rw [hq.out]; rfl, HB.out⟩
    · have e3 : ¬ (65000 : Int) < (bs.length : Int) := by omega
      have hq : Hid (wrongE (t, bs) = false) := by show _ = _; simp [wrongE, ht]; omega
      clear ht hb
      go_enter Tryz.func64, Tryz.ntmps64
      go_wp2_with fail
      go_ret
      exact ⟨by rw [hq.out]; rfl, HB.out⟩
/-- Where the first one is. -/
def GotIdx (b : Bool) (w : World) (e : Ending) (w' : World) : Prop := ∃ i : Int, e = .returned (.int .i64 i) ∧ (b = true → 0 ≤ i) ∧ (b = false → i = -1) ∧ Below w.heap.size w w'
theorem idx_wrong {v : Value} {l : List Elt} {w : World} (h : RowsOf ItemR 2 w v l) : Calls Tryz.prog 67 #[v, .func (.func 64) #[] #[]] w (GotIdx (l.any wrongE) w) := by
  obtain ⟨a, cap, b, off, rfl, hcap, hmx, -, ha, hit⟩ := items_open h
  unfold maxLen at hmx
  have A := Lib.hid ha
  have HIt := Lib.hid hit
  clear h ha hit
  go_enter Tryz.func67, Tryz.ntmps67
  go_wp2_with fail
  go_loopw [8] (fun i wr => ∃ k : Nat, k ≤ l.length ∧ i = .int .i64 k ∧ Hid (Below w.heap.size w wr) ∧ Hid ((l.take k).any wrongE = false)) (fun i _ => l.length - (intOf i).toNat)
  case atStart => exact ⟨0, by omega, rfl, Below.refl _ _, rfl⟩
  case round =>
    obtain ⟨k, hk, rfl, HW, HT⟩ := hrel
    by_cases hlt : k < l.length
    · obtain rfl := A.out (by omega)
      obtain ⟨⟨t, bs⟩, hx⟩ : ∃ x, l[k]? = some x := ⟨_, List.getElem?_eq_getElem hlt⟩
      obtain ⟨bv, x0, x1, hbv, -⟩ := HIt.out k t bs hx
      have x0 := (HW.out.cell (World.block_lt_of_cell? _ _ x0)).trans x0
      have x1 := (HW.out.cell (World.block_lt_of_cell? _ _ x1)).trans x1
      have hq := hel_wrong (t := t) (hbv.below HW.out)
      obtain ⟨av, cv, bbv, ov, rfl, -⟩ := hbv.open
      have HX := Lib.hid hx
      have e3 : decide ((k : Int) < (l.length : Int)) = true := decide_eq_true (by omega)
      unfold GotEq at hq
      clear hx hbv
      cases hw : wrongE (t, bs) with
      | true =>
        have HAny : Hid (l.any wrongE = true) := List.any_eq_true.2 ⟨_, List.mem_of_getElem? HX.out, hw⟩
        rw [hw] at hq
        have HQ := Lib.hid hq
        clear hw hq
        go_wp2_with fail
        refine HQ.out.mono ?_
        rintro e w2 ⟨rfl, hb⟩
        have HB := Lib.hid (HW.out.trans (hb.mono HW.out.size))
        clear hb
        go_wp2_with fail
        go_ret
        exact ⟨_, rfl, fun _ => by omega, (fun h => by rw [HAny.out] at h; cases h), HB.out⟩
      | false =>
        have HT2 : Hid ((l.take (k + 1)).any wrongE = false) := by rw [Hid, take_snoc' HX.out, List.any_append, HT.out]; simp [hw]
        rw [hw] at hq
        have HQ := Lib.hid hq
        clear hw hq
        go_wp2_with fail
        refine HQ.out.mono ?_
        rintro e w2 ⟨rfl, hb⟩
        have HB := Lib.hid (HW.out.trans (hb.mono HW.out.size))
        clear hb
        go_wp2_with fail
        go_roundw
        case rel => exact ⟨k + 1, by omega, by go_num, HB.out, HT2.out⟩
        case measure => simp [intOf]; omega
    · obtain rfl : k = l.length := by omega
      rw [List.take_length] at HT
      have e3 : decide ((l.length : Int) < (l.length : Int)) = false := decide_eq_false (by omega)
      go_wp2_with fail
      go_ret
      exact ⟨_, rfl, (fun h => by rw [HT.out] at h; cases h), fun _ => rfl, HW.out⟩
theorem has_wrong {v : Value} {l : List Elt} {w : World} (h : RowsOf ItemR 2 w v l) : Calls Tryz.prog 63 #[v, .func (.func 64) #[] #[]] w (GotEq (l.any wrongE) w) := by
  have HI := Lib.hid (idx_wrong h)
  obtain ⟨a, cap, b, off, rfl, -⟩ := items_open h
  clear h
  unfold GotEq
  unfold GotIdx at HI
  go_enter Tryz.func63, Tryz.ntmps63
  go_wp2_with fail
  refine HI.out.mono ?_
  rintro e w2 ⟨i, rfl, h1, h2, hb⟩
  have HB := Lib.hid hb
  clear hb HI
  cases hq : l.any wrongE with
  | true =>
    have e1 : (0 : Int) ≤ i := h1 hq
    have HQ := Lib.hid hq
    clear h1 h2 hq
    go_wp2_with fail
    go_ret
    exact ⟨by rw [HQ.out]; rfl, HB.out⟩
  | false =>
    obtain rfl := h2 hq
    have HQ := Lib.hid hq
    clear h1 h2 hq
    go_wp2_with fail
    go_ret
    exact ⟨by rw [HQ.out]; rfl, HB.out⟩
end Go.Proofs.YtcebcncpbedkmaaGreat
