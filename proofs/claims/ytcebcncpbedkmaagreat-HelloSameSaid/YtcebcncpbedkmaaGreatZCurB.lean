/- The walks of the cursor's Row and Num. Conditions: the receiver is a cursor that New has made. -/
import Derived.Test.YtcebcncpbedkmaaGreatZCurA
namespace Go.Proofs.YtcebcncpbedkmaaGreat
open Go.RowKit
set_option maxRecDepth 100000
set_option maxHeartbeats 4000000

/-- What a reading of numbers hands back. -/
def GotNums (B : Nat × Nat) (w : World) (p : Nat) (s : St) (l : List Int) (e : Ending) (w' : World) : Prop :=
  ∃ v, e = .returned v ∧ w'.ownsRow w.heap.size 68 1 v l.length (l.map (Value.int .u64)) ∧ Cur B w' p s ∧ w.grownBy w' (some p)

theorem getL_err {ws bs : List Int} {e : Int} (h : getL ws bs = .error e) : e = 1 ∨ e = 2 := by
  induction ws generalizing bs with
  | nil => simp [getL] at h
  | cons n ws ih =>
    simp only [getL] at h
    split at h
    · injection h with h; exact .inl h.symm
    · split at h
      · cases hg : getL ws (bs.drop n.natAbs) with
        | ok l => rw [hg] at h; simp [Except.map] at h
        | error e' => rw [hg] at h; simp [Except.map] at h; subst h; exact ih hg
      · split at h
        · exact ih h
        · injection h with h; exact .inr h.symm

/-- What Get can answer. -/
theorem getS_cases {ws bs : List Int} (hb : U8 bs) : ((getS ws bs).2 = 0 ∧ sizeS ws ≤ bs.length) ∨ ((getS ws bs).2 = 1 ∧ (getS ws bs).1 = []) ∨ ((getS ws bs).2 = 2 ∧ (getS ws bs).1 = []) := by
  cases hr : RightS ws with
  | false => rw [getS_bad hr]; simp
  | true =>
    cases hg : getL ws bs with
    | ok l =>
      refine .inl ⟨by rw [getS_ok hr hg], ?_⟩
      rw [sizeS, hr, if_pos rfl]
      exact (put_get (right_all hr) hb hg).1
    | error e =>
      rw [getS_err hr hg]
      rcases getL_err hg with rfl | rfl <;> simp

theorem row_busy {s : St} {ws : List Int} (h : s.er ≠ 0) : s.row ws = (s, []) := by rw [St.row, if_pos h]
theorem row_short {s : St} {ws : List Int} (h : s.er = 0) (h1 : (getS ws s.rest).2 = 1) : s.row ws = (s.fail s.sh, []) := by rw [St.row, if_neg (by simp [h]), if_pos h1]
theorem row_odd {s : St} {ws : List Int} (h : s.er = 0) (h1 : (getS ws s.rest).2 = 2) : s.row ws = (s.fail s.od, []) := by rw [St.row, if_neg (by simp [h]), if_neg (by rw [h1]; decide), if_pos h1]
theorem row_fine {s : St} {ws : List Int} (h : s.er = 0) (h1 : (getS ws s.rest).2 = 0) : s.row ws = ({ s with pos := s.pos + sizeS ws }, (getS ws s.rest).1) := by rw [St.row, if_neg (by simp [h]), if_neg (by rw [h1]; decide), if_neg (by rw [h1]; decide)]

/-- What GotNums asks, of a fault. -/
theorem GotNums.nil {B : Nat × Nat} {w w' : World} {p : Nat} {s : St} (h : Cur B w' p s) (hg : w.grownBy w' (some p)) : GotNums B w p s [] (.returned (.slice none 0 0)) w' :=
  ⟨_, rfl, World.ownsRow_nil _ _ _ _, h, hg⟩

theorem GotNums.drew {B : Nat × Nat} {w w' : World} {p : Nat} {s : St} {l : List Int} {e : Ending} (h : GotNums B w p s l e w') (q : Nat) : GotNums B w p s l e (w'.drewN q) := by
  obtain ⟨v, h1, h2, h3, h4⟩ := h
  exact ⟨v, h1, h2, h3, grown_draw h4 q⟩
theorem GotNums.fine {B : Nat × Nat} {w w1 : World} {p : Nat} {s : St} {ws : List Int} {v : Value} (h0 : s.er = 0) (hk : (getS ws s.rest).2 = 0) (hc : Cur B w1 p s) (hb : Below w.heap.size w w1) (ho : w1.ownsRow w.heap.size 68 1 v (getS ws s.rest).1.length ((getS ws s.rest).1.map (Value.int .u64))) (hlt : p < w.heap.size) (hz : s.pos + sizeS ws ≤ s.bs.length) :
    GotNums B w p (s.row ws).1 (s.row ws).2 (.returned v) (w1.setCell ⟨p, 1, none⟩ (.int .i64 ((s.pos : Int) + (sizeS ws : Int)))) := by
  rw [row_fine h0 hk, show (s.pos : Int) + (sizeS ws : Int) = ((s.pos + sizeS ws : Nat) : Int) by simp]
  exact ⟨v, rfl, own_other ho (grown_put _ _ _ _) (fun k e => by injection e with e; subst e; exact hlt), hc.setPos _ hz, grown_trans (grown_of_below hb _) (grown_put _ _ _ _)⟩

theorem cur_row {B : Nat × Nat} {p : Nat} {s : St} {w : World} (h : Cur B w p s) (vw : Value) (ws : List Int) (hw : Ints .i64 w vw ws) :
    Calls Tryz.prog 121 #[.pointer (some ⟨p, 0, none⟩), vw] w (GotNums B w p (s.row ws).1 (s.row ws).2) := by
  have C1 := Lib.hid (cur_err h)
  have HC := Lib.hid h
  have HW := Lib.hid hw
  obtain ⟨bv, er, her, hb, hp, c0, c1, c2, c3, c4, c5, fz⟩ := h.open
  obtain ⟨a, cap, b, off, rfl, -⟩ := hb.open
  obtain ⟨A, hsl, hcut⟩ := slice_from Tryz.underlying24 info_u8 hb (s.pos : Int) s.pos rfl hp.1
  have HG := row_get vw _ ws s.rest w.drew (hw.below (below_drewN (Below.refl _ _) 1)) (hcut.below (below_drewN (Below.refl _ _) 1))
  have hK := getS_cases (ws := ws) (bs := s.rest) hcut.u8
  have hrl : s.rest.length = s.bs.length - s.pos := by simp [St.rest]
  clear h hw c2 c3 c4 c5 fz
  by_cases h0 : s.er = 0
  · have HG0 : Hid (s.er = 0) := h0
    rw [h0] at C1
    clear h0 her hb hcut
    have HP := Lib.hid hp
    clear hp
    have HG1 : Hid (Calls Tryz.prog 125 #[vw, .slice A (s.bs.length - s.pos) (cap - s.pos)] w.drew fun e w1 => ∃ a1 cap1, e = .returned (.tuple #[.slice a1 (getS ws s.rest).1.length cap1, .int .i64 (getS ws s.rest).2]) ∧ w1.ownsRow w.heap.size 68 1 (.slice a1 (getS ws s.rest).1.length cap1) (getS ws s.rest).1.length ((getS ws s.rest).1.map (Value.int .u64)) ∧ Below w.heap.size w w1) :=
      HG.mono fun e w1 ⟨v1, he, ho, hB⟩ => by
        obtain ⟨a1, cap1, rfl⟩ := own_slice ho
        exact ⟨a1, cap1, he, ho, hB.os, hB.tape, hB.output, hB.size, hB.block⟩
    clear HG
    rcases hK with ⟨hk, hz⟩ | ⟨hk, hl⟩ | ⟨hk, hl⟩
    · rw [hk] at HG1
      have HK := Lib.hid hk
      have HZ : Hid (s.pos + sizeS ws ≤ s.bs.length) := by have := HP.out; show _ ≤ _; omega
      have hz1 : (s.pos : Int) + (sizeS ws : Int) ≤ 1000000000 := by have := HP.out; have := HZ.out; omega
      clear hk hz hrl
      go_enter Tryz.func121, Tryz.ntmps121
      go_wp2_with (first
        | (go_at_call 122; (with_reducible refine C1.out.mono ?_); rintro e1 w1 ⟨rfl, rfl⟩)
        | (go_region_with (go_at_call 125; (with_reducible refine HG1.out.mono ?_); rintro e1 w1 ⟨a1, cap1, rfl, ho1, hB1⟩; have HO1 := Lib.hid ho1; have HB1 := Lib.hid hB1; clear ho1 hB1; have HC1 := Lib.hid (HC.out.below HB1.out); have HS1 := Lib.hid (row_size vw ws w1.drew ((HW.out.below HB1.out).below (below_drewN (Below.refl _ _) 1))); obtain ⟨bv1, er1, -, -, -, -, d1, -, -, -, -, fz1⟩ := HC1.out.open; have fz11 := fz1 1; clear fz1))
        | (go_region_with (go_at_call 118; (with_reducible refine HS1.out.mono ?_); rintro e1 w1 ⟨rfl, rfl⟩)))
      all_goals
        go_ret
        rw [wrap_small (show -9223372036854775808 ≤ (s.pos : Int) + (sizeS ws : Int) by omega) (by omega)]
        exact GotNums.drew (GotNums.fine HG0.out HK.out HC1.out HB1.out HO1.out HC.out.lt HZ.out) 1
    · rw [hk, hl] at HG1
      have HK := Lib.hid hk
      have HL := Lib.hid hl
      clear hk hl hrl
      go_enter Tryz.func121, Tryz.ntmps121
      go_wp2_with (first
        | (go_at_call 122; (with_reducible refine C1.out.mono ?_); rintro e1 w1 ⟨rfl, rfl⟩)
        | (go_region_with (go_at_call 125; (with_reducible refine HG1.out.mono ?_); rintro e1 w1 ⟨a1, cap1, rfl, ho1, hB1⟩; have HO1 := Lib.hid ho1; have HB1 := Lib.hid hB1; clear ho1 hB1; have HC1 := Lib.hid (HC.out.below HB1.out); obtain ⟨bv1, er1, -, -, -, -, d1, d2, d3, -, -, fz1⟩ := HC1.out.open; clear fz1))
        | (go_at_call 126; (with_reducible refine (cur_fail HC1.out s.sh).mono ?_); rintro e1 w2 ⟨rfl, hc2, hg2⟩; have HC2 := Lib.hid hc2; have HG2 := Lib.hid hg2; clear hc2 hg2))
      all_goals
        go_ret
        rw [row_short HG0.out HK.out]
        exact ⟨_, rfl, own_other HO1.out HG2.out (fun k e => by injection e with e; subst e; exact HC.out.lt), HC2.out, grown_trans (grown_of_below HB1.out _) HG2.out⟩
    · rw [hk, hl] at HG1
      have HK := Lib.hid hk
      have HL := Lib.hid hl
      clear hk hl hrl
      go_enter Tryz.func121, Tryz.ntmps121
      go_wp2_with (first
        | (go_at_call 122; (with_reducible refine C1.out.mono ?_); rintro e1 w1 ⟨rfl, rfl⟩)
        | (go_region_with (go_at_call 125; (with_reducible refine HG1.out.mono ?_); rintro e1 w1 ⟨a1, cap1, rfl, ho1, hB1⟩; have HO1 := Lib.hid ho1; have HB1 := Lib.hid hB1; clear ho1 hB1; have HC1 := Lib.hid (HC.out.below HB1.out); obtain ⟨bv1, er1, -, -, -, -, d1, d2, d3, d4, -, fz1⟩ := HC1.out.open; clear fz1))
        | (go_at_call 126; (with_reducible refine (cur_fail HC1.out s.od).mono ?_); rintro e1 w2 ⟨rfl, hc2, hg2⟩; have HC2 := Lib.hid hc2; have HG2 := Lib.hid hg2; clear hc2 hg2))
      all_goals
        go_ret
        rw [row_odd HG0.out HK.out]
        exact ⟨_, rfl, own_other HO1.out HG2.out (fun k e => by injection e with e; subst e; exact HC.out.lt), HC2.out, grown_trans (grown_of_below HB1.out _) HG2.out⟩
  · have e1 : (s.er != 0) = true := by simpa using h0
    have HG0 : Hid (s.er ≠ 0) := h0
    clear h0 her hb hcut
    go_enter Tryz.func121, Tryz.ntmps121
    go_wp2_with ((go_at_call 122; (with_reducible refine C1.out.mono ?_); rintro e1 w1 ⟨rfl, rfl⟩))
    go_ret
    rw [row_busy HG0.out]
    exact GotNums.nil HC.out (World.grownBy.refl _ _)

end Go.Proofs.YtcebcncpbedkmaaGreat
