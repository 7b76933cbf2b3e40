/- 'RowBack': what was put is got again, whatever is behind it; one byte less is Short; what is got, put again, is those bytes. Conditions: none. -/
import Derived.Test.YtdljlcbjpfgmcaaSure01
namespace Go.Proofs.Ytdljlcbjpfgmcaa
open Go.RowKit

theorem own_empty (w : World) (base e size : Nat) (hb : base ≤ w.heap.size) : (w.alloc (.cells #[] e)).ownsRow base e size (.slice (some ⟨w.heap.size, 0, none⟩) 0 0) 0 [] :=
  World.ownsRow_made w #[] 0 hb (by unfold maxLen; omega) (by simp)

theorem putS_some {ws xs bs : List Int} (h : putS ws xs = some bs) : RightS ws = true ∧ cntL ws = xs.length ∧ putL ws xs = some bs := by
  unfold putS at h
  split at h
  · rename_i h1
    simp only [Bool.and_eq_true, decide_eq_true_eq] at h1
    exact ⟨h1.1, h1.2, h⟩
  · simp at h
theorem back_get {ws xs bs : List Int} (more : List Int) (h : putS ws xs = some bs) (hx : U64 xs) : getS ws (bs ++ more) = (xs, 0) := by
  obtain ⟨h1, h2, h3⟩ := putS_some h
  exact getS_ok h1 (get_put more (right_all h1) hx h2 h3)
theorem back_size {ws xs bs : List Int} (h : putS ws xs = some bs) : bs.length = sizeS ws := by
  obtain ⟨h1, h2, h3⟩ := putS_some h
  rw [putL_len h3]; simp [sizeS, h1]
theorem back_less {ws xs bs : List Int} (h : putS ws xs = some bs) (h0 : 0 < bs.length) : getS ws (bs.take (bs.length - 1)) = ([], 1) := by
  obtain ⟨h1, h2, h3⟩ := putS_some h
  exact getS_err h1 (get_less (right_all h1) h3 _ (by omega))
theorem back_put {ws bs l : List Int} (hr : RightS ws = true) (hb : U8 bs) (h : getS ws bs = (l, 0)) : ∃ n, n ≤ bs.length ∧ putS ws l = some (bs.take n) := by
  cases hg : getL ws bs with
  | error e =>
    exfalso
    rw [getS_err hr hg] at h
    have he : e = 0 := by injection h
    subst he
    have : ∀ (w b : List Int), getL w b ≠ .error 0 := by
      intro w
      induction w with
      | nil => intro b hb; simp [getL] at hb
      | cons n w ih =>
        intro b hb
        simp only [getL] at hb
        split at hb
        · simp at hb
        · split at hb
          · cases hh : getL w (b.drop n.natAbs) with
            | ok l => rw [hh] at hb; simp [Except.map] at hb
            | error e => rw [hh] at hb; simp [Except.map] at hb; subst hb; exact ih _ hh
          · split at hb
            · exact ih _ hb
            · simp at hb
    exact this _ _ hg
  | ok l' =>
    rw [getS_ok hr hg] at h
    injection h with h1 _
    subst h1
    obtain ⟨a1, a2, a3, a4⟩ := put_get (right_all hr) hb hg
    exact ⟨_, a1, by simp [putS, hr, a2, a3]⟩
theorem getS_nil {ws bs : List Int} (h : (getS ws bs).2 ≠ 0) : (getS ws bs).1 = [] := by
  unfold getS at h ⊢
  split
  · rename_i hr
    rw [if_pos hr] at h
    cases hg : getL ws bs with
    | ok l => rw [hg] at h; simp at h
    | error e => rfl
  · rfl

set_option maxRecDepth 100000 in
set_option maxHeartbeats 1000000 in
theorem walk_RowBack (v1 : Value) (ws : List Int) (v2 : Value) (xs : List Int) (v3 : Value) (ms : List Int) (w : World) (h1 : Ints .i64 w v1 ws) (h2 : Ints .u64 w v2 xs) (h3 : Ints .u8 w v3 ms) :
    Calls Try.prog 6 #[v1, v2, v3] w fun e w' => e = .returned (.bool true) ∧ Below w.heap.size w w' := by
  have hle1 := h1.le
  have hle2 := h2.le
  have hle3 := h3.le
  have H1 := Lib.hid h1
  have H2 := Lib.hid h2
  have H3 := Lib.hid h3
  obtain ⟨a, cap, b, off, rfl, -⟩ := h1.open
  obtain ⟨a2, cap2, b2, off2, rfl, -⟩ := h2.open
  obtain ⟨a3, cap3, b3, off3, rfl, -⟩ := h3.open
  clear h1 h2 h3
  by_cases g1 : 500 < ws.length
  · go_enter Try.func6, Try.ntmps6
    go_wp2_with (go_at_call 16; refine (sure01 _).mono ?_; rintro e w' ⟨rfl, hb⟩)
    go_ret
    exact ⟨rfl, hb⟩
  by_cases g2 : 500 < xs.length
  · go_enter Try.func6, Try.ntmps6
    go_wp2_with (go_at_call 16; refine (sure01 _).mono ?_; rintro e w' ⟨rfl, hb⟩)
    go_ret
    exact ⟨rfl, hb⟩
  by_cases g3 : 100 < ms.length
  · go_enter Try.func6, Try.ntmps6
    go_wp2_with (go_at_call 16; refine (sure01 _).mono ?_; rintro e w' ⟨rfl, hb⟩)
    go_ret
    exact ⟨rfl, hb⟩
  go_enter Try.func6, Try.ntmps6
  go_wp2_with fail
  refine (row_put_i _ _ ws xs _ H1.out H2.out).mono ?_
  rintro e w1 ⟨vb, rfl, hv, hb⟩
  have HB := Lib.hid hb
  have hsz1 := hb.size
  clear hb
  cases hp : putS ws xs with
  | none =>
    rw [hp] at hv
    obtain ⟨ab, cb, bb, ob, rfl, -⟩ := hv.open
    clear hv hp
    go_wp2_with (go_at_call 16; refine (sure01 _).mono ?_; rintro e w4 ⟨rfl, hb4⟩)
    go_ret
    exact ⟨rfl, HB.out.trans (hb4.mono hsz1)⟩
  | some bs =>
    rw [hp] at hv
    have HV : Hid (Ints .u8 w1 vb bs) := hv
    have HG1 : Hid (getS ws (bs ++ ms) = (xs, 0)) := back_get ms hp H2.out.u64
    have HSZ : Hid (bs.length = sizeS ws) := back_size hp
    have hbl : bs.length ≤ 4096 := by rw [HSZ.out]; exact sizeS_le ws
    have HRW : Hid (RightS ws = true) := (putS_some hp).1
    have HLS : Hid (0 < bs.length → getS ws (bs.take (bs.length - 1)) = ([], 1)) := back_less hp
    obtain ⟨ab, cb, bb, ob, rfl, -⟩ := HV.out.open
    clear hv hp
    go_wp2_with (first
      | (at_builtin; refine wpList_append_sl rfl (.tmp 47) (.tmp 48) _ rfl w1.heap.size 5 (.int .u8 0) 1 1 Try.underlying28 info_u8 rfl (by decide) _ 0 [] rfl (own_empty w1 _ _ _ (Nat.le_refl _)) _ bs.length (bs.map (Value.int .u8)) rfl (by simp) (HV.out.alloc _).1 (ints_one _ _) (by unfold maxLen; omega) (by omega) (by simp) ?_; intro v2 w2 hown2 hgrow2 _; have HO2 := Lib.hid hown2; have HB2 : Hid (Below w1.heap.size w1 w2) := own_grown (below_alloc2 _) (by simp) (own_empty w1 w1.heap.size 5 1 (Nat.le_refl _)) hgrow2 rfl; clear hown2 hgrow2)
      | (at_builtin; refine wpList_append_sl rfl (.tmp 49) (.tmp 50) _ rfl w1.heap.size 5 (.int .u8 0) 1 1 Try.underlying28 info_u8 rfl (by decide) v2 (0 + bs.length) _ rfl HO2.out _ ms.length (ms.map (Value.int .u8)) rfl (by simp) ((H3.out.below HB.out).below HB2.out).1 (ints_one _ _) (by unfold maxLen; omega) (by omega) HB2.out.size ?_; intro v3 w3 hown3 hgrow3 _; have HO3 := Lib.hid hown3; have HB13 : Hid (Below w1.heap.size w1 w3) := own_grown HB2.out HB2.out.size HO2.out hgrow3 rfl; clear hown3 hgrow3))
    have HW3 : Hid (Ints .u8 w3 v3 (bs ++ ms)) := by
      have h := HO3.out
      rw [List.nil_append, ← List.map_append] at h
      exact Ints.of_own h (HV.out.u8.append H3.out.u8).wf
    have HV3 : Hid (Ints .u8 w3 (.slice ab bs.length cb) bs) := HV.out.below HB13.out
    have HB3 : Hid (Below w.heap.size w w3) := HB.out.trans (HB13.out.mono hsz1)
    refine (row_get_i _ _ ws (bs ++ ms) _ (H1.out.below HB3.out) HW3.out).mono ?_
    rintro e w4 ⟨vl, rfl, hvl, hb4⟩
    rw [HG1.out] at hvl ⊢
    have HL : Hid (Ints .u64 w4 vl xs) := hvl
    have hsz3 := HB3.out.size
    have HB4 : Hid (Below w.heap.size w w4) := HB3.out.trans (hb4.mono hsz3)
    have HV4 : Hid (Ints .u8 w4 (.slice ab bs.length cb) bs) := HV3.out.below hb4
    clear hvl hb4 HO3 HW3 HV3 HB2 HO2
    go_wp2_with fail
    refine (ref_nums _ _ xs xs _ HL.out (H2.out.below HB4.out)).mono ?_
    rintro e w5 ⟨rfl, hb5⟩
    have hsz4 := HB4.out.size
    have HB5 : Hid (Below w.heap.size w w5) := HB4.out.trans (hb5.mono hsz4)
    have HV5 : Hid (Ints .u8 w5 (.slice ab bs.length cb) bs) := HV4.out.below hb5
    clear hb5 HL HV4
    rw [decide_eq_true rfl]
    have hcs : ((bs.length : Int) != (bs.length : Int)) = false := by simp
    have HSS := Lib.hid (row_size _ ws w5 (H1.out.below HB5.out))
    rw [← HSZ.out] at HSS
    have hsz5 := HB5.out.size
    by_cases hpos : 0 < bs.length
    case' pos =>
      obtain ⟨A, hsl, hA⟩ := slice_upto (P := Try.prog) Try.underlying28 info_u8 HV5.out ((bs.length : Int) - 1) (bs.length - 1) (by omega) (by omega)
      have HSA := Lib.hid hA
      clear hA
      go_wp2_with (go_at_call 19; refine HSS.out.mono ?_; rintro e w' ⟨rfl, rfl⟩)
      refine (row_get_i _ _ ws (bs.take (bs.length - 1)) _ (H1.out.below HB5.out) HSA.out).mono ?_
      rintro e w6 ⟨vn, rfl, -, hb6⟩
      rw [HLS.out hpos]
      have HB6 : Hid (Below w.heap.size w w6) := HB5.out.trans (hb6.mono hsz5)
      clear hb6 hsl
      go_wp2_with fail
    case' neg =>
      obtain ⟨w6, hw6⟩ : ∃ w6, w6 = w5 := ⟨_, rfl⟩
      have HB6 : Hid (Below w.heap.size w w6) := by rw [hw6]; exact HB5.out
      go_wp2_with (go_at_call 19; refine HSS.out.mono ?_; rintro e w' ⟨rfl, rfl⟩)
      rw [← hw6]
      clear hw6
    all_goals
      refine (row_get_i _ _ ws ms _ (H1.out.below HB6.out) (H3.out.below HB6.out)).mono ?_
      rintro e w7 ⟨vm, rfl, hvm, hb7⟩
      have hsz6 := HB6.out.size
      have HB7 : Hid (Below w.heap.size w w7) := HB6.out.trans (hb7.mono hsz6)
      have hsz7 := HB7.out.size
      clear hb7
      by_cases hz : (getS ws ms).2 = 0
      · obtain ⟨l, hl⟩ : ∃ l, getS ws ms = (l, 0) := ⟨(getS ws ms).1, by rw [← hz]⟩
        rw [hl] at hvm ⊢
        have HM : Hid (Ints .u64 w7 vm l) := hvm
        obtain ⟨n, hn, hps⟩ := back_put HRW.out H3.out.u8 hl
        have HPS := Lib.hid hps
        have HH3 : Hid (Ints .u8 w7 (.slice a3 ms.length cap3) ms) := H3.out.below HB7.out
        clear hvm hl hz hps
        go_wp2_with fail
        refine (row_put_i _ _ ws l _ (H1.out.below HB7.out) HM.out).mono ?_
        rintro e w8 ⟨vp, rfl, hvp, hb8⟩
        rw [HPS.out] at hvp ⊢
        have HP : Hid (Ints .u8 w8 vp (ms.take n)) := hvp
        obtain ⟨ap, cp, bp, op, rfl, -⟩ := HP.out.open
        have hln : (ms.take n).length = n := by rw [List.length_take]; omega
        have HB8 : Hid (Below w.heap.size w w8) := HB7.out.trans (hb8.mono hsz7)
        have hsz8 := HB8.out.size
        obtain ⟨A2, hsl2, hA2⟩ := slice_upto (P := Try.prog) Try.underlying28 info_u8 (HH3.out.below hb8) (n : Int) n rfl hn
        have HA2 := Lib.hid hA2
        rw [hln] at HP ⊢
        clear hvp hb8 hln hA2
        have hnm : (n : Int) ≤ ms.length := by omega
        go_wp2_with (first | (go_at_call 25; (with_reducible refine (ref_bytes _ _ (ms.take n) (ms.take n) _ HP.out HA2.out).mono ?_); rintro e w9 ⟨rfl, hb9⟩; have HB9 : Hid (Below w.heap.size w w9) := HB8.out.trans (hb9.mono hsz8); clear hb9; rw [decide_eq_true rfl]) | (go_at_call 16; refine (sure01 _).mono ?_; rintro e w10 ⟨rfl, hb10⟩))
        go_ret
        exact ⟨rfl, HB9.out.trans (hb10.mono HB9.out.size)⟩
      · have hnil := getS_nil hz
        rw [hnil] at hvm
        obtain ⟨am, cm, bm, om, rfl, -⟩ := hvm.open
        generalize (getS ws ms).2 = R at *
        have hzb : (R != 0) = true := by simp; omega
        clear hvm hnil
        go_wp2_with (go_at_call 16; refine (sure01 _).mono ?_; rintro e w10 ⟨rfl, hb10⟩)
        go_ret
        exact ⟨rfl, HB7.out.trans (hb10.mono hsz7)⟩

end Go.Proofs.Ytdljlcbjpfgmcaa
