/- The walk of the cursor's Num; Err, Num and Sub of no cursor. Conditions: the receiver is a cursor that New has made, or nil. The walk of queue.prop. Conditions: at most 10^6 bytes. -/
import Derived.Test.YtoobcgakainelaaZCurB
import Derived.Test.YtoobcgakainelaaZQueE
namespace Go.Proofs.Ytoobcgakainelaa
open Go.RowKit
set_option maxRecDepth 100000
set_option maxHeartbeats 4000000

/-- What Num hands back. -/
def GotNum (B : Nat × Nat) (w : World) (p : Nat) (s : St) (n : Int) (e : Ending) (w' : World) : Prop :=
  e = .returned (.int .u64 n) ∧ Cur B w' p s ∧ w.grownBy w' (some p)

theorem num_bad {s : St} {n : Int} (h : n < 1 ∨ 8 < n) : s.num n = (s.fail 10001, 0) := by rw [St.num, if_pos h]
theorem num_good {s : St} {n : Int} (h1 : 1 ≤ n) (h2 : n ≤ 8) : s.num n = ((s.row [n]).1, (s.row [n]).2.getD 0 0) := by rw [St.num, if_neg (by omega)]

theorem row_u64 {s : St} {ws : List Int} (h : s.ok) : U64 (s.row ws).2 := by
  have hu : U8 s.rest := fun z hz => h.2 z (List.mem_of_mem_drop hz)
  have h0 : U64 [] := fun z hz => by simp at hz
  unfold St.row
  split
  · exact h0
  · split
    · exact h0
    · split
      · exact h0
      · exact getS_u64 hu

/-- The first of what a call handed back. -/
theorem own_first {w : World} {base e : Nat} {k : IntKind} {v : Value} {x : Int} {l : List Int} (h : w.ownsRow base e 1 v (x :: l).length ((x :: l).map (Value.int k))) (hw : ∀ z ∈ x :: l, (Lit.int k z).wf = true) :
    ∃ b off cap, v = .slice (some ⟨b, off, none⟩) (x :: l).length cap ∧ w.cell? ⟨b, off, none⟩ = some (.int k x) := by
  obtain ⟨a, cap, b, off, rfl, -, -, -, h1, h2⟩ := (Ints.of_own h hw).open
  obtain rfl := h1 (by simp)
  exact ⟨b, off, cap, rfl, by have := h2 0 (by simp); simpa using this⟩

theorem nil_none {w : World} : Calls Try.prog 58 #[.pointer none] w fun e w' => e = .returned (.bool true) ∧ w = w' := by
  go_enter Try.func58, Try.ntmps58
  go_wp2
  go_ret
  exact ⟨rfl, rfl⟩
theorem nil_err {w : World} : Calls Try.prog 28 #[.pointer none] w fun e w' => e = .returned (.int .i64 10001) ∧ w = w' := by
  go_enter Try.func28, Try.ntmps28
  go_wp2_with ((go_at_call 58; (with_reducible refine nil_none.mono ?_); rintro e1 w1 ⟨rfl, rfl⟩))
  go_ret
  exact ⟨rfl, rfl⟩
theorem nil_fail {w : World} (x : Int) : Calls Try.prog 57 #[.pointer none, .int .i64 x] w fun e w' => e = .returned (.tuple #[]) ∧ w = w' := by
  go_enter Try.func57, Try.ntmps57
  go_wp2_with ((go_at_call 58; (with_reducible refine nil_none.mono ?_); rintro e1 w1 ⟨rfl, rfl⟩))
  go_end0
  exact ⟨rfl, rfl⟩
theorem nil_left {w : World} : Calls Try.prog 29 #[.pointer none] w fun e w' => e = .returned (.int .i64 0) ∧ w = w' := by
  go_enter Try.func29, Try.ntmps29
  go_wp2_with ((go_at_call 58; (with_reducible refine nil_none.mono ?_); rintro e1 w1 ⟨rfl, rfl⟩))
  go_ret
  exact ⟨rfl, rfl⟩
theorem nil_row {v : Value} {w : World} : Calls Try.prog 41 #[.pointer none, v] w fun e w' => e = .returned (.slice none 0 0) ∧ w = w' := by
  go_enter Try.func41, Try.ntmps41
  go_wp2_with ((go_at_call 28; (with_reducible refine nil_err.mono ?_); rintro e1 w1 ⟨rfl, rfl⟩))
  go_ret
  exact ⟨rfl, rfl⟩
theorem nil_take {w : World} : Calls Try.prog 55 #[.pointer none, .int .i64 0] w fun e w' => e = .returned (.tuple #[.slice none 0 0, .bool false]) ∧ w = w' := by
  go_enter Try.func55, Try.ntmps55
  go_wp2_with (first
    | (go_at_call 29; (with_reducible refine nil_left.mono ?_); rintro e1 w1 ⟨rfl, rfl⟩)
    | (go_at_call 28; (with_reducible refine nil_err.mono ?_); rintro e1 w1 ⟨rfl, rfl⟩))
  go_ret2
  exact ⟨rfl, rfl⟩
end Go.Proofs.Ytoobcgakainelaa
namespace Go.Proofs.Ytoobcgakainelaa
open Go.RowKit
set_option maxRecDepth 100000
set_option maxHeartbeats 8000000

theorem St.rest_er (s : St) : (s.bytes s.left).1.er = s.er := by
  by_cases h : s.er = 0
  · rw [bytes_fine h (Nat.le_refl _)]
  · rw [bytes_busy (by omega) h]
theorem getS_len {w b : List Int} (hb : U8 b) : (getS w b).1.length ≤ 64 := by
  unfold getS
  split
  · rename_i hr
    have h1 := right_len hr
    cases h : getL w b with
    | error e => simp
    | ok l =>
      have := (put_get (right_all hr) hb h).2.1
      have := cntL_le w
      show l.length ≤ 64
      omega
  · simp
theorem St.row_len {s : St} (h : s.ok) (ws : List Int) : (s.row ws).2.length ≤ 64 := by
  unfold St.row
  split
  · simp
  · split
    · simp
    · split
      · simp
      · exact getS_len (fun z hz => h.2 z (List.mem_of_mem_drop hz))
theorem St.row_sh (s : St) (ws : List Int) : (s.row ws).1.sh = s.sh := by
  unfold St.row St.fail
  repeat' split
  all_goals rfl
theorem propQ_row {t : Int} {bs w : List Int} (hu : U8 bs) (hr : rowsQ t = some w) (hc : ¬ (t ≠ 65535 ∧ bs.length ≠ 12)) :
    propQ (t, bs) = ((t, ((St.fresh bs 263 269).row w).2.getD 0 0, (((St.fresh bs 263 269).row w).1.bytes ((St.fresh bs 263 269).row w).1.left).2), ((St.fresh bs 263 269).row w).1.er) := by
  have hrest : (St.fresh bs 263 269).rest = bs := rfl
  obtain ⟨h1, -, h3, -⟩ := rowsQ_some hr
  unfold propQ
  simp only
  rw [hr]
  simp only
  rw [if_neg hc]
  rcases getS_cases (ws := w) hu with ⟨h, hsz⟩ | ⟨h, h'⟩ | ⟨h, h'⟩
  · rw [row_fine rfl (by rw [hrest]; exact h), if_neg (by rw [h]; decide), if_neg (by rw [h]; decide)]
    rw [bytes_fine rfl (Nat.le_refl _), hrest, h3]
    rw [h3] at hsz
    simp only [St.left, St.rest, St.fresh, Nat.zero_add]
    rw [List.take_of_length_le (by simp)]
  · rw [row_short rfl (by rw [hrest]; exact h), if_pos h, fail_first rfl, bytes_busy (by omega) (by show (263 : Int) ≠ 0; decide)]
    rfl
  · rw [row_odd rfl (by rw [hrest]; exact h), if_neg (by rw [h]; decide), if_pos h, fail_first rfl, bytes_busy (by omega) (by show (269 : Int) ≠ 0; decide)]
    rfl
theorem propQ_none {t : Int} {bs : List Int} (h : rowsQ t = none) : propQ (t, bs) = ((0, 0, []), 269) := by unfold propQ; rw [h]
theorem propQ_long {t : Int} {bs w : List Int} (h : rowsQ t = some w) (hc : t ≠ 65535 ∧ bs.length ≠ 12) : propQ (t, bs) = ((0, 0, []), 263) := by unfold propQ; rw [h]; simp only; rw [if_pos hc]

def GotProp (x : Int × List Int) (w : World) (e : Ending) (w' : World) : Prop :=
  ∃ dv, e = .returned (.tuple #[.agg #[.int .i64 (propQ x).1.1, .int .u64 (propQ x).1.2.1, dv], .int .i64 (propQ x).2]) ∧ w'.ownsRow w.heap.size 5 1 dv (propQ x).1.2.2.length ((propQ x).1.2.2.map (Value.int .u8)) ∧ U8 (propQ x).1.2.2 ∧ Below w.heap.size w w'
theorem GotProp.none {x : Int × List Int} {e : Int} {w w' : World} (h : propQ x = ((0, 0, []), e)) (hb : Below w.heap.size w w') : GotProp x w (.returned (.tuple #[.agg #[.int .i64 0, .int .u64 0, .slice Option.none 0 0], .int .i64 e])) w' := by
  unfold GotProp
  rw [h]
  exact ⟨_, rfl, World.ownsRow_nil _ _ _ _, fun z hz => by simp at hz, hb⟩
theorem GotProp.some {x : Int × List Int} {t a e : Int} {bs : List Int} {dv : Value} {w w' : World} (h : propQ x = ((t, a, bs), e)) (ho : w'.ownsRow w.heap.size 5 1 dv bs.length (bs.map (Value.int .u8))) (hu : U8 bs) (hb : Below w.heap.size w w') : GotProp x w (.returned (.tuple #[.agg #[.int .i64 t, .int .u64 a, dv], .int .i64 e])) w' := by
  unfold GotProp
  rw [h]
  exact ⟨_, rfl, ho, hu, hb⟩

theorem rows3 {w : World} {X : Nat} {x y z : Value} {t : TypeId} (h : w.heap[X]? = some (.cells #[x, y, z] t (0, 0))) (v0 v1 v2 : Value) :
    (((w.setCell ⟨X, 0, none⟩ v0).setCell ⟨X, 1, none⟩ v1).setCell ⟨X, 2, none⟩ v2).heap[X]? = some (.cells #[v0, v1, v2] t (0, 0)) ∧ w.grownBy (((w.setCell ⟨X, 0, none⟩ v0).setCell ⟨X, 1, none⟩ v1).setCell ⟨X, 2, none⟩ v2) (some X) := by
  have h1 := (heap_put h 0 v0).trans (by rfl : _ = some (.cells #[v0, y, z] t (0, 0)))
  have h2 := (heap_put h1 1 v1).trans (by rfl : _ = some (.cells #[v0, v1, z] t (0, 0)))
  have h3 := (heap_put h2 2 v2).trans (by rfl : _ = some (.cells #[v0, v1, v2] t (0, 0)))
  exact ⟨h3, grown_trans (grown_trans (grown_put w X 0 v0) (grown_put _ X 1 v1)) (grown_put _ X 2 v2)⟩

theorem first_cell {k : IntKind} {w : World} {g n cap : Nat} {zs : List Int} (h : Ints k w (.slice (some ⟨g, 0, none⟩) n cap) zs) (h0 : 0 < zs.length) : w.cell? ⟨g, 0, none⟩ = some (.int k (zs.getD 0 0)) := by
  obtain ⟨a, cap', b, off, he, -, -, -, h5, h6⟩ := h.open
  injection he with e1 e2 e3
  have := h5 h0
  rw [← e1] at this
  injection this with this
  injection this with e4 e5
  subst e4
  subst e5
  exact h6 0 h0
theorem getD_snoc0 (l : List Int) : (l ++ [0]).getD 0 0 = l.getD 0 0 := by cases l <;> rfl
theorem que_prop {t : Int} {bv : Value} {bs : List Int} {w : World} (h : Ints .u8 w bv bs) (hl : bs.length ≤ 1000000) :
    Calls Try.prog 78 #[.agg #[.int .i64 t, bv]] w (GotProp (t, bs) w) := by
  have HU := Lib.hid h.u8
  have HI := Lib.hid h
  have HL := Lib.hid hl
  obtain ⟨av, capv, bb, ov, rfl, -⟩ := h.open
  clear h hl
  have hr0 := heap_alloc_new w (.cells #[.int .i64 t, .slice av bs.length capv] 28)
  have hr1 := heap_alloc_new (w.alloc (.cells #[.int .i64 t, .slice av bs.length capv] 28)) (.cells #[.int .i64 0, .int .u64 0, .slice none 0 0] 81)
  rw [World.size_alloc] at hr1
  have S0 := Lib.hid (row_below (below_alloc2 (.cells #[.int .i64 0, .int .u64 0, .slice none 0 0] 81)) hr0)
  have S1 := Lib.hid hr1
  have hb0 := (below_alloc2 (w := w) (.cells #[.int .i64 t, .slice av bs.length capv] 28)).trans ((below_alloc2 (w := w.alloc (.cells #[.int .i64 t, .slice av bs.length capv] 28)) (.cells #[.int .i64 0, .int .u64 0, .slice none 0 0] 81)).mono (by simp))
  have HB0 := Lib.hid hb0
  have HI0 := Lib.hid (HI.out.below hb0)
  have hs0 : w.heap.size + 2 ≤ ((w.alloc (.cells #[.int .i64 t, .slice av bs.length capv] 28)).alloc (.cells #[.int .i64 0, .int .u64 0, .slice none 0 0] 81)).heap.size := by simp
  clear hr0 hr1 hb0
  go_enter Try.func78, Try.ntmps78
  go_wp2_with fail
  generalize (w.alloc (.cells #[.int .i64 t, .slice av bs.length capv] 28)).alloc (.cells #[.int .i64 0, .int .u64 0, .slice none 0 0] 81) = w0 at *
  refine (que_rows t w0).mono ?_
  rintro e w1 ⟨ar, capr, rfl, hr, hb⟩
  have HB1 := Lib.hid (HB0.out.trans (hb.mono HB0.out.size))
  have T0 := Lib.hid (row_below hb S0.out)
  have T1 := Lib.hid (row_below hb S1.out)
  have HI1 := Lib.hid (HI0.out.below hb)
  have HS1 := Lib.hid (Nat.le_trans hs0 hb.size)
  have HR := Lib.hid hr
  clear hb hr S0 S1 HB0 HI0 hs0
  have x0 := cell_row T0.out 0
  have x1 := cell_row T0.out 1
  go_wp2_with fail
  refine (cur_new HI1.out (by have := HL.out; omega) 263 269).mono ?_
  rintro e w2 ⟨p, rfl, hc, hb⟩
  have HB2 := Lib.hid (HB1.out.trans (hb.mono HB1.out.size))
  have HR2 := Lib.hid (HR.out.below hb)
  have U0 := Lib.hid (row_below hb T0.out)
  have U1 := Lib.hid (row_below hb T1.out)
  have HC := Lib.hid hc
  have HF := Lib.hid (Nat.le_trans HS1.out hc.from)
  clear hb hc T0 T1 HB1 x0 x1
  have x0 := cell_row U0.out 0
  have x1 := cell_row U0.out 1
  have y0 := cell_row U1.out 0
  have y1 := cell_row U1.out 1
  have y2 := cell_row U1.out 2
  have z0 := frozen_row U1.out 0
  have z1 := frozen_row U1.out 1
  have z2 := frozen_row U1.out 2
  have hr3 := rows3 U1.out (.int .i64 0) (.int .u64 0) (.slice none 0 0)
  have HZ := Lib.hid (And.intro hr3.1 (below_row HB2.out HB2.out.size hr3.2 (Nat.le_succ _)))
  have fin : Hid (∀ (er : Int) (q : Nat) (tmps : Array Value), propQ (t, bs) = ((0, 0, []), er) → tmps.getD 2 undef = .pointer (some ⟨w.heap.size + 1, 0, none⟩) → tmps.getD 3 undef = .int .i64 er → bodyPost Try.prog Try.f78 (GotProp (t, bs) w) Exit.ret ⟨tmps, []⟩ ((((w2.setCell ⟨w.heap.size + 1, 0, none⟩ (.int .i64 0)).setCell ⟨w.heap.size + 1, 1, none⟩ (.int .u64 0)).setCell ⟨w.heap.size + 1, 2, none⟩ (.slice none 0 0)).drewN q)) := fun er q tmps he ht1 ht2 => by
    refine bodyPost_ret (res_row_tmpI rfl _ _ (w.heap.size + 1) _ _ _ _ ht1 HZ.out.1 Try.underlying81 rfl (by kernel_rfl)) rfl ?_
    rw [ht2]
    exact GotProp.none he (below_drewN HZ.out.2 q)
  clear hr3
  cases hrq : rowsQ t with
  | none =>
    have HE := Lib.hid (propQ_none (bs := bs) hrq)
    clear hrq
    go_wp2_with fail
    exact fin.out 269 0 _ HE.out rfl rfl
  | some ws =>
    have HRw : Hid (Ints .i64 w2 (.slice ar ws.length capr) ws) := by have := HR2.out; rw [hrq] at this; exact this
    rw [show (some ws : Option (List Int)).getD [] = ws from rfl, show (some ws : Option (List Int)).isSome = true from rfl]
    have hsz := (rowsQ_some hrq).2.2.1
    by_cases hc : t ≠ 65535 ∧ bs.length ≠ 12
    · have HE := Lib.hid (propQ_long hrq hc)
      obtain ⟨hc1, hc2⟩ := hc
      have e1 : (t != 65535) = true := by simpa using hc1
      have e2 : ((bs.length : Int) != (12 : Int)) = true := by simp; omega
      have HSz : Hid (∀ W, Below w2.heap.size w2 W → Calls Try.prog 72 #[.slice ar ws.length capr] W fun e w' => e = .returned (.int .i64 12) ∧ W = w') := Lib.hid (fun W hW => by have := row_size _ ws W (HRw.out.below hW); rw [hsz] at this; exact this)
      clear hrq HR2 hsz hc1 hc2
      go_wp2_with fail
      go_quiet ((go_at_call 72; exact quiet_some ((HSz.out _ (below_drewN (Below.refl _ _) _)).mono fun _ _ ⟨h1, h2⟩ => ⟨h1, 0, h2 ▸ rfl⟩)))
      go_wp2_with fail
      exact fin.out 263 _ _ HE.out rfl rfl
    · have HE := Lib.hid (propQ_row HU.out hrq hc)
      have HSz : Hid (∀ W, Below w2.heap.size w2 W → Calls Try.prog 72 #[.slice ar ws.length capr] W fun e w' => e = .returned (.int .i64 12) ∧ W = w') := Lib.hid (fun W hW => by have := row_size _ ws W (HRw.out.below hW); rw [hsz] at this; exact this)
      have hc' : (t != 65535) = false ∨ ((t != 65535) = true ∧ bs.length = 12) := by
        by_cases h1 : t = 65535
        · exact .inl (by simpa using h1)
        · exact .inr ⟨by simpa using h1, by
            by_cases h2 : bs.length = 12
            · exact h2
            · exact absurd ⟨h1, h2⟩ hc⟩
      have hws : 0 ≤ ws.length := by omega
      clear hrq HR2 hsz hc
      have hrl := St.row_len HC.out.ok ws
      have hru := row_u64 (ws := ws) HC.out.ok
      generalize hrr : (St.fresh bs 263 269).row ws = rr at HE hrl hru
      have HRr := Lib.hid hrr
      obtain ⟨s1, l1⟩ := rr
      simp only at HE hrl hru
      have HRu := Lib.hid hru
      clear hrr hru
      rcases hc' with e1 | ⟨e1, e2⟩
      case' inl =>
        go_wp2_with fail
        go_quiet (fail)
        go_wp2_with fail
      case' inr =>
        have e3 : ((bs.length : Int) != (12 : Int)) = false := by simp; omega
        clear e2
        go_wp2_with fail
        go_quiet ((go_at_call 72; exact quiet_some ((HSz.out _ (below_drewN (Below.refl _ _) _)).mono fun _ _ ⟨h1, h2⟩ => ⟨h1, 0, h2 ▸ rfl⟩)))
        go_wp2_with fail
      all_goals
        have hrow := cur_row (HC.out.drew nq) (.slice ar ws.length capr) ws (HRw.out.below (below_drewN (Below.refl _ _) nq))
        rw [HRr.out] at hrow
        refine hrow.mono ?_
        clear hrow
        rintro e w3 ⟨v3, rfl, ho, hc3, hg⟩
        obtain ⟨a3, cap3, rfl⟩ := own_slice ho
        have HO3 := Lib.hid ho
        have HC3 := Lib.hid hc3
        have hg' : w2.grownBy w3 (some p) := ⟨hg.os, hg.tape, hg.output, hg.size, hg.block⟩
        have V0 := Lib.hid ((hg'.block w.heap.size (Array.getElem?_eq_some_iff.1 U0.out).1 (fun e => by have := HF.out; injection e with e; omega)).trans U0.out)
        have V1 := Lib.hid ((hg'.block (w.heap.size + 1) (Array.getElem?_eq_some_iff.1 U1.out).1 (fun e => by have := HF.out; injection e with e; omega)).trans U1.out)
        have HB3 := Lib.hid (HB2.out.grown hg' HB2.out.size (fun k e => by have := HF.out; injection e with e; omega))
        have hs23 := Lib.hid hg'.size
        clear ho hc3 hg hg' x0 x1 y0 y1 y2 z0 z1 z2
        go_wp2_with (at_builtin; refine wpList_append_new rfl _ _ _ rfl w2.heap.size 76 (.int .u64 0) 1 8 Try.underlying83 info_u64 rfl (by decide) (.slice a3 l1.length cap3) l1.length _ rfl HO3.out [.int .u64 0] rfl rfl (by simp [Value.oneCell']) (by unfold maxLen; omega) (by omega) hs23.out ?_; intro v4 w4 hown hgrow; obtain ⟨a4, cap4, rfl⟩ := own_slice hown; have HO4 := Lib.hid hown; have HG4 := Lib.hid hgrow; clear hown hgrow)
        have hne3 : ∀ k, (Value.slice a3 l1.length cap3).ownBlock = some k → w2.heap.size ≤ k := fun k e => (HO3.out.lt k e).1
        have hlt2 := HF.out
        have hpu := HC.out.upto
        have W0 := Lib.hid ((HG4.out.block w.heap.size (Array.getElem?_eq_some_iff.1 V0.out).1 (fun e => by have := hne3 _ e.symm; omega)).trans V0.out)
        have W1 := Lib.hid ((HG4.out.block (w.heap.size + 1) (Array.getElem?_eq_some_iff.1 V1.out).1 (fun e => by have := hne3 _ e.symm; omega)).trans V1.out)
        have HB4 := Lib.hid (HB3.out.grown HG4.out HB3.out.size (fun k e => by have := hne3 _ e; omega))
        have HC4 := Lib.hid (HC3.out.grown HG4.out (fun k e => .inr (hne3 k e)))
        obtain ⟨g4, cp4, e4, -⟩ := own_pos HO4.out (by omega)
        injection e4 with e4 _ _
        subst e4
        have hI4 := Ints.of_own (k := .u64) (zs := l1 ++ [0]) (by rw [List.map_append]; exact HO4.out) (fun z hz => by
          rcases List.mem_append.1 hz with hz | hz
          · exact HRu.out.wf z hz
          · simp at hz; subst hz; decide)
        have l0 := first_cell hI4 (by simp)
        rw [getD_snoc0] at l0
        generalize l1.getD 0 0 = x at l0 HE
        have hg4 : w2.heap.size ≤ g4 := (HO4.out.lt g4 rfl).1
        have L0 := Lib.hid l0
        have HRe := cur_rest (w := w4.drew) HC4.out (by have := congrArg (fun r => r.1.sh) HRr.out; simp only at this; rw [← this, St.row_sh]; show (263 : Int) ≠ 0; decide)
        have HRe := Lib.hid HRe
        have hee := Lib.hid (St.rest_er s1)
        have hp2 : w.heap.size + 2 ≤ p := hlt2
        clear hne3 hI4 HRr hlt2
        generalize s1.bytes s1.left = sb at HRe HE hee
        obtain ⟨s2, db⟩ := sb
        simp only at HRe HE hee
        have w0 := cell_row W0.out 0
        have w1' := cell_row W0.out 1
        have y0 := cell_row W1.out 0
        have y1 := cell_row W1.out 1
        have y2 := cell_row W1.out 2
        go_region_law (first
          | (go_simp; go_at_call 88; (with_reducible refine HRe.out.mono ?_); rintro e w5 ⟨vd, rfl, ho, hub, hc5, hg⟩; obtain ⟨ad, capd, rfl⟩ := own_slice ho; have HD5 := Lib.hid ho; have HUb := Lib.hid hub; have HC5 := Lib.hid hc5
             have W0' := Lib.hid ((hg.block w.heap.size (Array.getElem?_eq_some_iff.1 W0.out).1 (fun e => by injection e with e; omega)).trans W0.out)
             have W1' := Lib.hid ((hg.block (w.heap.size + 1) (Array.getElem?_eq_some_iff.1 W1.out).1 (fun e => by injection e with e; omega)).trans W1.out)
             have HB5 := Lib.hid (HB4.out.grown (show w4.grownBy w5 (some p) from ⟨hg.os, hg.tape, hg.output, hg.size, hg.block⟩) HB4.out.size (fun k e => by injection e with e; omega))
             have hs45 := Lib.hid hg.size
             have v0 := cell_row W0'.out 0
             have u0 := cell_row W1'.out 0
             have u1 := cell_row W1'.out 1
             have u2 := cell_row W1'.out 2
             have f0 := frozen_row W1'.out 0
             have f1 := frozen_row W1'.out 1
             have f2 := frozen_row W1'.out 2
             have l5 : w5.cell? ⟨g4, 0, none⟩ = some (.int .u64 x) := (World.cell?_of_block (w := w4) (hg.block g4 (World.block_lt_of_cell? _ _ L0.out) (fun e => by injection e with e; omega))).trans L0.out
             clear ho hub hc5 hg)
          | (go_simp; go_at_call 28; (with_reducible refine (cur_err HC5.out).mono ?_); rintro e w6 ⟨rfl, rfl⟩))
        all_goals
          go_wp2
          have hr5 := rows3 W1'.out (.int .i64 t) (.int .u64 x) (.slice ad db.length capd)
          refine bodyPost_ret (res_row_tmpI rfl _ _ (w.heap.size + 1) _ _ _ _ rfl hr5.1 Try.underlying81 rfl (by kernel_rfl)) rfl ?_
          exact GotProp.some (HE.out.trans (by rw [hee.out])) (own_base (own_kept HD5.out hr5.2 (NotTy.of_block W1'.out (by decide))) HB4.out.size) HUb.out (below_row HB5.out HB5.out.size hr5.2 (Nat.le_succ _))
end Go.Proofs.Ytoobcgakainelaa
