/- The walks of tlv.Shape's methods. Conditions: the shape's numbers fit their types; for fits and zeros, that the shape may be. The walk of tlv.One. Conditions: the argument reads as bytes, at most 10^9. The walk of tlv.One. Conditions: the argument reads as bytes, at most 10^9. -/
import Derived.Test.YtcebcncpbedkmaaGreatZCurA
import Derived.Test.YtcebcncpbedkmaaGreatZFit
import Derived.Test.YtcebcncpbedkmaaGreatZCurB
import Derived.Great.BuildSlice
namespace Go.Proofs.YtcebcncpbedkmaaGreat
open Go.RowKit
set_option maxRecDepth 100000
set_option maxHeartbeats 4000000

theorem sh_may (s : Sh) (w : World) : Calls Tryz.prog 93 #[s.val] w fun e w' => e = .returned (.bool s.may) ∧ Below w.heap.size w w' := by
  obtain ⟨least, step, pad, bad, odd⟩ := s
  unfold Sh.val Sh.may
  go_enter Tryz.func93, Tryz.ntmps93
  go_wp2
  all_goals
    go_ret
    refine ⟨?_, below_alloc2 _⟩
    first
      | (simp_all; done)
      | (simp_all; omega)
      | (by_cases h : odd = 0 <;> simp_all)

theorem sh_zeros {s : Sh} (hm : s.may = true) (n : Nat) (hn : n ≤ 1000000) (w : World) : Calls Tryz.prog 96 #[s.val, .int .i64 n] w fun e w' => e = .returned (.int .i64 (s.zeros n : Nat)) ∧ Below w.heap.size w w' := by
  have hm' := Sh.may_iff.1 hm
  obtain ⟨least, step, pad, bad, odd⟩ := s
  obtain ⟨k, rfl⟩ : ∃ k : Nat, step = k := ⟨step.toNat, by have := hm'.2.2.1; simp at this; omega⟩
  have h1 : (1 : Int) ≤ k := hm'.2.2.1
  have h2 : (k : Int) ≤ 64 := hm'.2.2.2.1
  have hk0 : (k : Int) ≠ 0 := by omega
  have hk1 : (k : Int) ≠ -1 := by omega
  have hkb : ((k : Int) == 0) = false := by simpa using hk0
  clear hm hm'
  have hr : n % k < k := Nat.mod_lt _ (by omega)
  have hz : (⟨least, k, pad, bad, odd⟩ : Sh).zeros n = if pad then (k - n % k) % k else 0 := by simp [Sh.zeros]
  unfold Sh.val
  cases pad with
  | false =>
    go_enter Tryz.func96, Tryz.ntmps96
    go_wp2
    go_ret
    exact ⟨by rw [hz]; rfl, below_alloc2 _⟩
  | true =>
    go_enter Tryz.func96, Tryz.ntmps96
    go_wp2_with go_quiet (fail)
    go_ret
    refine ⟨?_, below_drewN (below_alloc2 _) _⟩
    have e : ((k - n % k : Nat) : Int) % k = -((n : Int) % k) % k := by
      rw [Int.ofNat_sub (Nat.le_of_lt hr), Int.natCast_emod, Int.sub_eq_add_neg, Int.add_comm, Int.add_emod_right]
    rw [e]
    rfl

theorem sh_fits {s : Sh} (hm : s.may = true) (n : Nat) (hn : n ≤ 1000000) (w : World) : Calls Tryz.prog 94 #[s.val, .int .i64 n] w fun e w' => e = .returned (.bool (s.fits n)) ∧ Below w.heap.size w w' := by
  have hm' := Sh.may_iff.1 hm
  obtain ⟨least, step, pad, bad, odd⟩ := s
  obtain ⟨k, rfl⟩ : ∃ k : Nat, step = k := ⟨step.toNat, by have := hm'.2.2.1; simp at this; omega⟩
  have h1 : (1 : Int) ≤ k := hm'.2.2.1
  have h0 : (4 : Int) ≤ least := hm'.1
  have hk0 : (k : Int) ≠ 0 := by omega
  have hkb : ((k : Int) == 0) = false := by simpa using hk0
  clear hm hm'
  unfold Sh.val
  by_cases hl : least ≤ n
  · cases pad with
    | true =>
      go_enter Tryz.func94, Tryz.ntmps94
      go_wp2
      go_ret
      refine ⟨?_, below_alloc2 _⟩
      have : least.toNat ≤ n := by omega
      simp [Sh.fits, this]
    | false =>
      go_enter Tryz.func94, Tryz.ntmps94
      go_wp2
      go_ret
      refine ⟨?_, below_alloc2 _⟩
      have : least.toNat ≤ n := by omega
      have e : ((n % k : Nat) : Int) = (n : Int) % k := Int.natCast_emod _ _
      by_cases h0 : n % k = 0
      · have : (n : Int) % k = 0 := by rw [← e, h0]; rfl
        simp_all [Sh.fits]
      · have : (n : Int) % k ≠ 0 := by rw [← e]; omega
        simp_all [Sh.fits]
  · go_enter Tryz.func94, Tryz.ntmps94
    go_wp2
    go_ret
    refine ⟨?_, below_alloc2 _⟩
    have : ¬ least.toNat ≤ n := by omega
    simp [Sh.fits, this]

end Go.Proofs.YtcebcncpbedkmaaGreat
namespace Go.Proofs.YtcebcncpbedkmaaGreat
open Go.RowKit
set_option maxRecDepth 100000
set_option maxHeartbeats 4000000

theorem s22_short {bs : List Int} (h : bs.length < 4) : getS [2, 2] bs = ([], 1) := by
  have hr : RightS [2, 2] = true := by decide
  refine getS_err hr ?_
  by_cases h1 : bs.length < 2
  · simp [getL, h1]
  · have h2 : bs.length - 2 < 2 := by omega
    simp [getL, Except.map, List.length_drop, h1, h2]
theorem s22_fine {bs : List Int} (h : 4 ≤ bs.length) : getS [2, 2] bs = ([valL (bs.take 2), valL ((bs.drop 2).take 2)], 0) := by
  have hr : RightS [2, 2] = true := by decide
  refine getS_ok hr ?_
  have h1 : ¬ bs.length < 2 := by omega
  have h2 : ¬ bs.length - 2 < 2 := by omega
  simp [getL, Except.map, List.length_drop, h1, h2]
theorem sz_row {s : St} {k : Nat} (h : s.er = 0) (h1 : 1 ≤ k) (h2 : k ≤ 64) (hk : k ≤ s.rest.length) :
    s.row [-(k : Int)] = if (s.rest.take k).all (· == 0) then ({ s with pos := s.pos + k }, []) else (s.fail s.od, []) := by
  have hr : RightS [-(k : Int)] = true := by
    simp [RightS, okW]; omega
  have hn : (-(k : Int)).natAbs = k := by omega
  have hp : ¬ (0 : Int) < -(k : Int) := by omega
  have hl : ¬ s.rest.length < k := by omega
  cases hz : (s.rest.take k).all (· == 0) with
  | true =>
    have hg : getS [-(k : Int)] s.rest = ([], 0) := getS_ok hr (by simp only [getL]; rw [hn, if_neg hl, if_neg hp, if_pos hz])
    rw [row_fine h (by rw [hg]), hg]
    simp [sizeS, hr, sizeL, hn]
  | false =>
    have hg : getS [-(k : Int)] s.rest = ([], 2) := getS_err hr (by simp only [getL]; rw [hn, if_neg hl, if_neg hp, hz]; rfl)
    rw [row_odd h (by rw [hg])]
    rfl

/-- What One hands back. -/
def GotOne (s : Sh) (bs : List Int) (w : World) (e : Ending) (w' : World) : Prop :=
  ∃ bv, e = .returned (.tuple #[.agg #[.int .i64 (s.one bs).1.1, bv], .int .i64 ((s.one bs).2.1 : Nat), .int .i64 (s.one bs).2.2]) ∧ w'.ownsRow w.heap.size 5 1 bv (s.one bs).1.2.length ((s.one bs).1.2.map (Value.int .u8)) ∧ U8 (s.one bs).1.2 ∧ Below w.heap.size w w'

theorem GotOne.none {s : Sh} {bs : List Int} {w w' : World} {x : Int} (h : s.one bs = ((0, []), 0, x)) (hb : Below w.heap.size w w') : GotOne s bs w (.returned (.tuple #[.agg #[.int .i64 0, .slice none 0 0], .int .i64 0, .int .i64 x])) w' := by
  unfold GotOne
  rw [h]
  exact ⟨_, rfl, World.ownsRow_nil _ _ _ _, fun z hz => by simp at hz, hb⟩



theorem res_row_tmp_tmp {P : Program} {fn : Func} {p u v : Tmp} {ty : TypeId} (h : fn.results = #[.cell p ty, .tmp u, .tmp v]) (tmps : Array Value) (w : World) (g : Nat) (t : TypeId) (cs : Array Value) (fr : Nat × Nat) (d : TypeDesc)
    (hp : tmps.getD p undef = .pointer (some ⟨g, 0, none⟩)) (hg : w.heap[g]? = some (.cells cs t fr))
    (hu : P.underlying ty = some d) (hd : (match d with | .struct _ | .array _ _ => true | _ => false) = true) (hi : (P.info? ty).map (·.size) = some cs.size) :
    (results fn tmps).run P w = .ok (.tuple #[.agg cs, tmps.getD u undef, tmps.getD v undef]) w := by
  have hp' : tmps[p]?.getD undef = .pointer (some ⟨g, 0, none⟩) := by simpa using hp
  simp [results, h, hp', asAddr, run_loadVar_row w g t ty cs fr d hg hu hd hi]
theorem below_setRow {B g : Nat} {w0 w : World} (h : Below B w0 w) (hg : B ≤ g) (cs : Array Value) : Below B w0 (w.setRow g cs) :=
  ⟨h.os, h.tape, h.output, by rw [setRow_size]; exact h.size, fun k hk => (setRow_other w g k cs (by omega)).trans (h.block k hk)⟩

theorem below_row {B : Nat} {w w1 w2 : World} {p : Nat} (hb : Below B w w1) (hs : B ≤ w1.heap.size) (hg : w1.grownBy w2 (some p)) (hp : B ≤ p) : Below B w w2 :=
  hb.grown hg hs fun k e => by injection e with e; omega

/-- Since w, two blocks have been laid: a shape, and a thing of no bytes; they stand. -/
structure Two0 (w : World) (s : Sh) (w' : World) : Prop where
  below : Below w.heap.size w w'
  size : w.heap.size + 2 ≤ w'.heap.size
  sh : w'.heap[w.heap.size]? = some (.cells #[.int .i64 s.least, .int .i64 s.step, .bool s.pad, .int .i64 s.bad, .int .i64 s.odd] 111 (0, 0))
  res : w'.heap[w.heap.size + 1]? = some (.cells #[.int .i64 0, .slice none 0 0] 108 (0, 0))

theorem Two0.start (w : World) (s : Sh) : Two0 w s ((w.alloc (.cells #[.int .i64 s.least, .int .i64 s.step, .bool s.pad, .int .i64 s.bad, .int .i64 s.odd] 111)).alloc (.cells #[.int .i64 0, .slice none 0 0] 108)) where
  below := ((Below.refl _ w).alloc (Nat.le_refl _) _).alloc (by simp) _
  size := by simp
  sh := (heap_alloc_old _ _ (by simp)).trans (heap_alloc_new w _)
  res := by have := heap_alloc_new (w.alloc (.cells #[.int .i64 s.least, .int .i64 s.step, .bool s.pad, .int .i64 s.bad, .int .i64 s.odd] 111)) (.cells #[.int .i64 0, .slice none 0 0] 108); simpa using this
theorem Two0.step {w w1 w2 : World} {s : Sh} {B : Nat} (h : Two0 w s w1) (hb : Below B w1 w2) (hB : w.heap.size + 2 ≤ B) : Two0 w s w2 where
  below := h.below.trans (hb.mono (by omega))
  size := Nat.le_trans h.size hb.size
  sh := (hb.block _ (by omega)).trans h.sh
  res := (hb.block _ (by omega)).trans h.res
theorem Two0.row {w w1 w2 : World} {s : Sh} {p : Nat} (h : Two0 w s w1) (hg : w1.grownBy w2 (some p)) (hp : w.heap.size + 2 ≤ p) : Two0 w s w2 :=
  h.step (below_row (Below.refl (w.heap.size + 2) w1) h.size hg hp) (Nat.le_refl _)


theorem cell_row {w : World} {g : Nat} {cs : Array Value} {t : TypeId} {fr : Nat × Nat} (h : w.heap[g]? = some (.cells cs t fr)) (i : Nat) : w.cell? ⟨g, i, none⟩ = cs[i]? := by
  simp only [World.cell?, h]
  rfl
theorem frozen_row {w : World} {g : Nat} {cs : Array Value} {t : TypeId} (h : w.heap[g]? = some (.cells cs t (0, 0))) (i : Nat) : w.frozen? ⟨g, i, none⟩ = false := by
  simp [World.frozen?, h]
theorem Two0.cells {w w' : World} {s : Sh} (h : Two0 w s w') :
    w'.cell? ⟨w.heap.size, 0, none⟩ = some (.int .i64 s.least) ∧ w'.cell? ⟨w.heap.size, 1, none⟩ = some (.int .i64 s.step) ∧ w'.cell? ⟨w.heap.size, 2, none⟩ = some (.bool s.pad) ∧ w'.cell? ⟨w.heap.size, 3, none⟩ = some (.int .i64 s.bad) ∧ w'.cell? ⟨w.heap.size, 4, none⟩ = some (.int .i64 s.odd) ∧
    w'.cell? ⟨w.heap.size + 1, 0, none⟩ = some (.int .i64 0) ∧ w'.cell? ⟨w.heap.size + 1, 1, none⟩ = some (.slice none 0 0) ∧ w'.frozen? ⟨w.heap.size + 1, 0, none⟩ = false ∧ w'.frozen? ⟨w.heap.size + 1, 1, none⟩ = false :=
  ⟨cell_row h.sh 0, cell_row h.sh 1, cell_row h.sh 2, cell_row h.sh 3, cell_row h.sh 4, cell_row h.res 0, cell_row h.res 1, frozen_row h.res 0, frozen_row h.res 1⟩
theorem rows2 {w : World} {g : Nat} {o0 o1 : Value} {t : TypeId} (h : w.heap[g]? = some (.cells #[o0, o1] t (0, 0))) (v0 v1 : Value) :
    ((w.setCell ⟨g, 0, none⟩ v0).setCell ⟨g, 1, none⟩ v1).heap[g]? = some (.cells #[v0, v1] t (0, 0)) ∧ w.grownBy ((w.setCell ⟨g, 0, none⟩ v0).setCell ⟨g, 1, none⟩ v1) (some g) := by
  have y1 := heap_put h 0 v0
  have y2 := heap_put y1 1 v1
  exact ⟨y2, grown_trans (grown_put _ _ _ _) (grown_put _ _ _ _)⟩
/-- The result's block, stored. -/
theorem Two0.set {w w' : World} {s : Sh} (h : Two0 w s w') (v0 v1 : Value) :
    ((w'.setCell ⟨w.heap.size + 1, 0, none⟩ v0).setCell ⟨w.heap.size + 1, 1, none⟩ v1).heap[w.heap.size + 1]? = some (.cells #[v0, v1] 108 (0, 0)) ∧ Below w.heap.size w ((w'.setCell ⟨w.heap.size + 1, 0, none⟩ v0).setCell ⟨w.heap.size + 1, 1, none⟩ v1) :=
  ⟨(rows2 h.res v0 v1).1, below_row h.below h.below.size (rows2 h.res v0 v1).2 (by omega)⟩
end Go.Proofs.YtcebcncpbedkmaaGreat
namespace Go.Proofs.YtcebcncpbedkmaaGreat
open Go.RowKit
set_option maxRecDepth 100000
set_option maxHeartbeats 4000000

theorem one_may {s : Sh} {v : Value} {bs : List Int} {w : World} (hm : s.may = false) : Calls Tryz.prog 113 #[s.val, v] w (GotOne s bs w) := by
  have HM := sh_may s
  rw [hm] at HM
  have HM := Lib.hid HM
  have HO : Hid (s.one bs = ((0, []), 0, 10001)) := by show _ = _; rw [Sh.one, if_pos hm]
  clear hm
  simp only [Sh.val]
  go_enter Tryz.func113, Tryz.ntmps113
  go_wp2_with (go_at_call 93; (with_reducible refine (HM.out _).mono ?_); rintro e w1 ⟨rfl, hb⟩; have H1 := Lib.hid ((Two0.start w s).step hb (by simp)); obtain ⟨c0, c1, c2, c3, c4, d0, d1, f0, f1⟩ := H1.out.cells; clear hb)
  obtain ⟨hh, hb⟩ := H1.out.set (.int .i64 0) (.slice none 0 0)
  refine bodyPost_ret (res_row_tmp_tmp rfl _ _ (w.heap.size + 1) _ _ _ _ rfl hh Tryz.underlying108 rfl (by kernel_rfl)) rfl ?_
  exact GotOne.none HO.out hb



theorem one_short {s : Sh} {v : Value} {bs : List Int} {w : World} (hm : s.may = true) (h : Ints .u8 w v bs) (h4 : bs.length < 4) : Calls Tryz.prog 113 #[s.val, v] w (GotOne s bs w) := by
  have HM := sh_may s
  rw [hm] at HM
  have HM := Lib.hid HM
  have HO : Hid (s.one bs = ((0, []), 0, s.bad)) := by show _ = _; rw [Sh.one, if_neg (by simp [hm]), if_pos h4]
  have HR : Hid ((St.fresh bs s.bad s.odd).row [2, 2] = ((St.fresh bs s.bad s.odd).fail s.bad, [])) := row_short rfl (by rw [show (St.fresh bs s.bad s.odd).rest = bs from rfl, s22_short h4])
  have HL : Hid (bs.length ≤ 1000000000) := by show _ ≤ _; omega
  have HI := Lib.hid h
  have HE : Hid (((St.fresh bs s.bad s.odd).fail s.bad).er = s.bad) := rfl
  clear h hm h4
  simp only [Sh.val]
  go_enter Tryz.func113, Tryz.ntmps113
  go_wp2_with (first
    | (go_at_call 93; (with_reducible refine (HM.out _).mono ?_); rintro e w1 ⟨rfl, hb⟩; have H1 := Lib.hid ((Two0.start w s).step hb (by simp)); obtain ⟨c0, c1, c2, c3, c4, d0, d1, f0, f1⟩ := H1.out.cells; have HI1 := Lib.hid (HI.out.below H1.out.below); have HS1 := Lib.hid H1.out.size; clear hb)
    | (go_at_call 120; (with_reducible refine (cur_new HI1.out HL.out s.bad s.odd).mono ?_); rintro e w2 ⟨q, rfl, hq, hb⟩; have HQ := Lib.hid hq; have HF := Lib.hid (Nat.le_trans HS1.out hq.from); have H2 := Lib.hid (H1.out.step hb HS1.out); have HI2 := Lib.hid (HI1.out.below hb); clear hq hb c0 c1 c2 c3 c4 d0 d1 f0 f1; obtain ⟨c0, c1, c2, c3, c4, d0, d1, f0, f1⟩ := H2.out.cells)
    | (go_at_call 121; have hr := cur_row (HQ.out.below (below_alloc2 (.cells #[.int .i64 2, .int .i64 2] 3))) (.slice (some ⟨w2.heap.size, 0, none⟩) 2 2) [2, 2] (Ints.lit .i64 w2 3 [2, 2] _ rfl (by decide) (by decide)); rw [HR.out] at hr; (with_reducible refine hr.mono ?_); clear hr; rintro e w3 ⟨va, rfl, ho, hc, hg⟩; obtain ⟨aa, capa, rfl⟩ := own_slice ho; have H3 := Lib.hid ((H2.out.step (below_alloc2 _) H2.out.size).row hg HF.out); have HC := Lib.hid hc; have HO3 := Lib.hid ho; clear ho hc hg c0 c1 c2 c3 c4 d0 d1 f0 f1; obtain ⟨c0, c1, c2, c3, c4, d0, d1, f0, f1⟩ := H3.out.cells)
    | (go_at_call 122; (with_reducible refine (cur_err HC.out).mono ?_); rintro e w4 ⟨rfl, rfl⟩))
  obtain ⟨hh, hb⟩ := H3.out.set (.int .i64 0) (.slice none 0 0)
  refine bodyPost_ret (res_row_tmp_tmp rfl _ _ (w.heap.size + 1) _ _ _ _ rfl hh Tryz.underlying108 rfl (by kernel_rfl)) rfl ?_
  exact GotOne.none HO.out hb



theorem xs_0 {k : IntKind} {w : World} {b o c : Nat} {x y : Int} (h : Ints k w (.slice (some ⟨b, o, none⟩) [x, y].length c) [x, y]) : w.cell? ⟨b, o, none⟩ = some (.int k x) := by
  obtain ⟨a, cap, b', off, e, -, -, -, h4, h5⟩ := h.open
  injection e with e1 e2 e3
  have := h4 (by simp)
  rw [← e1] at this
  injection this with this
  injection this with e4 e5
  subst e4; subst e5
  exact h5 0 (by simp)
theorem xs_1 {k : IntKind} {w : World} {b o c : Nat} {x y : Int} (h : Ints k w (.slice (some ⟨b, o, none⟩) [x, y].length c) [x, y]) : w.cell? ⟨b, o + 1, none⟩ = some (.int k y) := by
  obtain ⟨a, cap, b', off, e, -, -, -, h4, h5⟩ := h.open
  injection e with e1 e2 e3
  have := h4 (by simp)
  rw [← e1] at this
  injection this with this
  injection this with e4 e5
  subst e4; subst e5
  exact h5 1 (by simp)

theorem one_unfit {s : Sh} {v : Value} {bs : List Int} {w : World} (hm : s.may = true) (h : Ints .u8 w v bs) (h4 : 4 ≤ bs.length) (hl : bs.length ≤ 1000000000) (hf : s.fits (told bs) = false) : Calls Tryz.prog 113 #[s.val, v] w (GotOne s bs w) := by
  have HM := sh_may s
  rw [hm] at HM
  have HM := Lib.hid HM
  have hu := h.u8
  have hnl := told_lt hu
  have hne := told_eq hu
  have hv := valL_bd (b := bs.take 2) (fun z hz => hu z (List.mem_of_mem_take hz))
  rw [show (bs.take 2).length = 2 by simp; omega, show (256 : Int) ^ 2 = 65536 by decide] at hv
  have hr : (St.fresh bs s.bad s.odd).row [2, 2] = ({ St.fresh bs s.bad s.odd with pos := 4 }, [valL (bs.take 2), (told bs : Int)]) := by
    rw [row_fine rfl (by rw [show (St.fresh bs s.bad s.odd).rest = bs from rfl, s22_fine h4]), show (St.fresh bs s.bad s.odd).rest = bs from rfl, s22_fine h4, ← hne]
    rfl
  have HO : Hid (s.one bs = ((0, []), 0, s.bad)) := by show _ = _; rw [Sh.one, if_neg (by simp [hm]), if_neg (by omega), if_pos (.inl hf)]
  have HT := sh_fits hm (told bs) (by omega)
  rw [hf] at HT
  have HT := Lib.hid HT
  have HL : Hid (bs.length ≤ 1000000000) := hl
  have HI := Lib.hid h
  clear h hm h4 hl hf hne hu
  generalize told bs = n at hnl hr HT
  generalize valL (bs.take 2) = x at hv hr
  have HR := Lib.hid hr
  have HU : Hid (∀ z ∈ [x, (n : Int)], (Lit.int .u64 z).wf = true) := U64.wf (by intro z hz; simp at hz; omega)
  clear hr
  simp only [Sh.val]
  go_enter Tryz.func113, Tryz.ntmps113
  go_wp2_with (first
    | (go_at_call 93; (with_reducible refine (HM.out _).mono ?_); rintro e w1 ⟨rfl, hb⟩; have H1 := Lib.hid ((Two0.start w s).step hb (by simp)); obtain ⟨c0, c1, c2, c3, c4, d0, d1, f0, f1⟩ := H1.out.cells; have HI1 := Lib.hid (HI.out.below H1.out.below); have HS1 := Lib.hid H1.out.size; clear hb)
    | (go_at_call 120; (with_reducible refine (cur_new HI1.out HL.out s.bad s.odd).mono ?_); rintro e w2 ⟨q, rfl, hq, hb⟩; have HQ := Lib.hid hq; have HF := Lib.hid (Nat.le_trans HS1.out hq.from); have H2 := Lib.hid (H1.out.step hb HS1.out); have HI2 := Lib.hid (HI1.out.below hb); clear hq hb c0 c1 c2 c3 c4 d0 d1 f0 f1; obtain ⟨c0, c1, c2, c3, c4, d0, d1, f0, f1⟩ := H2.out.cells)
    | (go_at_call 121; have hr := cur_row (HQ.out.below (below_alloc2 (.cells #[.int .i64 2, .int .i64 2] 3))) (.slice (some ⟨w2.heap.size, 0, none⟩) 2 2) [2, 2] (Ints.lit .i64 w2 3 [2, 2] _ rfl (by decide) (by decide)); rw [HR.out] at hr; (with_reducible refine hr.mono ?_); clear hr; rintro e w3 ⟨va, rfl, ho, hc, hg⟩; obtain ⟨aa, capa, bx, ox, rfl, -, -, -, hax, hcx⟩ := (Ints.of_own ho HU.out).open; obtain rfl := hax (by simp); have HX3 := Lib.hid (Ints.of_own ho HU.out); have H3 := Lib.hid ((H2.out.step (below_alloc2 _) H2.out.size).row hg HF.out); have HC := Lib.hid hc; clear ho hc hg hax hcx c0 c1 c2 c3 c4 d0 d1 f0 f1; obtain ⟨c0, c1, c2, c3, c4, d0, d1, f0, f1⟩ := H3.out.cells; have x1 := xs_0 HX3.out; have x2 := xs_1 HX3.out)
    | (go_at_call 94; (with_reducible refine (HT.out _).mono ?_); rintro e w4 ⟨rfl, hb⟩; have H4 := Lib.hid (H3.out.step hb H3.out.size); have HC4 := Lib.hid (HC.out.below hb); have HX4 := Lib.hid (HX3.out.below hb); clear hb x1 x2 c0 c1 c2 c3 c4 d0 d1 f0 f1; obtain ⟨c0, c1, c2, c3, c4, d0, d1, f0, f1⟩ := H4.out.cells; have x1 := xs_0 HX4.out; have x2 := xs_1 HX4.out)
    | go_region)
  obtain ⟨hh, hb⟩ := H4.out.set (.int .i64 0) (.slice none 0 0)
  refine bodyPost_ret (res_row_tmp_tmp rfl _ (World.drew _) (w.heap.size + 1) _ _ _ _ rfl hh Tryz.underlying108 rfl (by kernel_rfl)) rfl ?_
  exact GotOne.none HO.out (below_drewN hb 1)

theorem one_long {s : Sh} {v : Value} {bs : List Int} {w : World} (hm : s.may = true) (h : Ints .u8 w v bs) (h4 : 4 ≤ bs.length) (hl : bs.length ≤ 1000000000) (hf : s.fits (told bs) = true) (hz : bs.length < told bs + s.zeros (told bs)) : Calls Tryz.prog 113 #[s.val, v] w (GotOne s bs w) := by
  have HM := sh_may s
  rw [hm] at HM
  have HM := Lib.hid HM
  have hu := h.u8
  have hnl := told_lt hu
  have hne := told_eq hu
  have hv := valL_bd (b := bs.take 2) (fun z hz => hu z (List.mem_of_mem_take hz))
  rw [show (bs.take 2).length = 2 by simp; omega, show (256 : Int) ^ 2 = 65536 by decide] at hv
  have hr : (St.fresh bs s.bad s.odd).row [2, 2] = ({ St.fresh bs s.bad s.odd with pos := 4 }, [valL (bs.take 2), (told bs : Int)]) := by
    rw [row_fine rfl (by rw [show (St.fresh bs s.bad s.odd).rest = bs from rfl, s22_fine h4]), show (St.fresh bs s.bad s.odd).rest = bs from rfl, s22_fine h4, ← hne]
    rfl
  have HO : Hid (s.one bs = ((0, []), 0, s.bad)) := by show _ = _; rw [Sh.one, if_neg (by simp [hm]), if_neg (by omega), if_pos (.inr hz)]
  have HT := sh_fits hm (told bs) (by omega)
  rw [hf] at HT
  have HT := Lib.hid HT
  have HZ := Lib.hid (sh_zeros hm (told bs) (by omega))
  have hzl := Sh.zeros_lt hm (told bs)
  have HL : Hid (bs.length ≤ 1000000000) := hl
  have HI := Lib.hid h
  obtain ⟨av, capv, bv, ov, rfl, -⟩ := h.open
  clear h hm h4 hf hne hu
  generalize s.zeros (told bs) = z at hz hzl HZ
  generalize told bs = n at hnl hr HT HZ hz
  generalize valL (bs.take 2) = x at hv hr
  have HR := Lib.hid hr
  have HU : Hid (∀ z ∈ [x, (n : Int)], (Lit.int .u64 z).wf = true) := U64.wf (by intro z hz; simp at hz; omega)
  have hgt : decide ((bs.length : Int) < (n : Int) + (z : Int)) = true := decide_eq_true (by omega)
  clear hr
  simp only [Sh.val]
  go_enter Tryz.func113, Tryz.ntmps113
  go_wp2_with (first
    | (go_at_call 93; (with_reducible refine (HM.out _).mono ?_); rintro e w1 ⟨rfl, hb⟩; have H1 := Lib.hid ((Two0.start w s).step hb (by simp)); obtain ⟨c0, c1, c2, c3, c4, d0, d1, f0, f1⟩ := H1.out.cells; have HI1 := Lib.hid (HI.out.below H1.out.below); have HS1 := Lib.hid H1.out.size; clear hb)
    | (go_at_call 120; (with_reducible refine (cur_new HI1.out HL.out s.bad s.odd).mono ?_); rintro e w2 ⟨q, rfl, hq, hb⟩; have HQ := Lib.hid hq; have HF := Lib.hid (Nat.le_trans HS1.out hq.from); have H2 := Lib.hid (H1.out.step hb HS1.out); have HI2 := Lib.hid (HI1.out.below hb); clear hq hb c0 c1 c2 c3 c4 d0 d1 f0 f1; obtain ⟨c0, c1, c2, c3, c4, d0, d1, f0, f1⟩ := H2.out.cells)
    | (go_at_call 121; have hr := cur_row (HQ.out.below (below_alloc2 (.cells #[.int .i64 2, .int .i64 2] 3))) (.slice (some ⟨w2.heap.size, 0, none⟩) 2 2) [2, 2] (Ints.lit .i64 w2 3 [2, 2] _ rfl (by decide) (by decide)); rw [HR.out] at hr; (with_reducible refine hr.mono ?_); clear hr; rintro e w3 ⟨va, rfl, ho, hc, hg⟩; obtain ⟨aa, capa, bx, ox, rfl, -, -, -, hax, hcx⟩ := (Ints.of_own ho HU.out).open; obtain rfl := hax (by simp); have HX3 := Lib.hid (Ints.of_own ho HU.out); have H3 := Lib.hid ((H2.out.step (below_alloc2 _) H2.out.size).row hg HF.out); have HC := Lib.hid hc; clear ho hc hg hax hcx c0 c1 c2 c3 c4 d0 d1 f0 f1; obtain ⟨c0, c1, c2, c3, c4, d0, d1, f0, f1⟩ := H3.out.cells; have x1 := xs_0 HX3.out; have x2 := xs_1 HX3.out)
    | (go_at_call 94; (with_reducible refine (HT.out _).mono ?_); rintro e w4 ⟨rfl, hb⟩; have H4 := Lib.hid (H3.out.step hb H3.out.size); have HC4 := Lib.hid (HC.out.below hb); have HX4 := Lib.hid (HX3.out.below hb); clear hb x1 x2 c0 c1 c2 c3 c4 d0 d1 f0 f1; obtain ⟨c0, c1, c2, c3, c4, d0, d1, f0, f1⟩ := H4.out.cells; have x1 := xs_0 HX4.out; have x2 := xs_1 HX4.out)
    | (go_at_call 96; (with_reducible refine (HZ.out _).mono ?_); rintro e w5 ⟨rfl, hb⟩; have H5 := Lib.hid (H4.out.step hb H4.out.size); have HC5 := Lib.hid (HC4.out.below hb); have HX5 := Lib.hid (HX4.out.below hb); clear hb x1 x2 c0 c1 c2 c3 c4 d0 d1 f0 f1; obtain ⟨c0, c1, c2, c3, c4, d0, d1, f0, f1⟩ := H5.out.cells; have x1 := xs_0 HX5.out; have x2 := xs_1 HX5.out)
    | go_region)
  obtain ⟨hh, hb⟩ := H5.out.set (.int .i64 0) (.slice none 0 0)
  refine bodyPost_ret (res_row_tmp_tmp rfl _ (World.drew _) (w.heap.size + 1) _ _ _ _ rfl hh Tryz.underlying108 rfl (by kernel_rfl)) rfl ?_
  exact GotOne.none HO.out (below_drewN hb 1)

end Go.Proofs.YtcebcncpbedkmaaGreat
