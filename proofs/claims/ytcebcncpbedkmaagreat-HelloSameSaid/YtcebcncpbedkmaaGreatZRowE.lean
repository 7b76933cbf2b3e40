/- The walks of row.Get and of the document's Get: each answers what the plain Lean says. Conditions: the arguments read as lists of numbers. The walk of the document's Get: it answers what the plain Lean says. Conditions: the arguments read as lists of numbers. Literal slices, and the contracts of Put and Get said of what the results read as. Conditions: those of the walks. -/
import Derived.Test.YtcebcncpbedkmaaGreatZRowC
namespace Go.Proofs.YtcebcncpbedkmaaGreat
open Go.RowKit

/-- How far a row has been got. -/
def Getting (ws bs : List Int) (k : Nat) (acc rest : List Int) : Prop :=
  getL ws bs = (getL (ws.drop k) rest).map (acc ++ ·) ∧ acc.length = cntL (ws.take k) ∧ rest = bs.drop (sizeL (ws.take k))
theorem except_map_id {α : Type} (x : Except Int (List α)) : x.map ([] ++ ·) = x := by
  cases x <;> simp [Except.map]
theorem except_map_map {α : Type} (x : Except Int (List α)) (f g : List α → List α) : (x.map f).map g = x.map (fun l => g (f l)) := by
  cases x <;> rfl
theorem Getting.start (ws bs : List Int) : Getting ws bs 0 [] bs := ⟨by rw [List.drop_zero, except_map_id], rfl, by simp [sizeL]⟩
theorem Getting.pos {ws bs acc rest : List Int} {k : Nat} (h : Getting ws bs k acc rest) (hk : k < ws.length) (hn : 0 < ws.getD k 0) (hl : (ws.getD k 0).natAbs ≤ rest.length) :
    Getting ws bs (k + 1) (acc ++ [valL (rest.take (ws.getD k 0).natAbs)]) (rest.drop (ws.getD k 0).natAbs) := by
  obtain ⟨h1, h2, h3⟩ := h
  rw [drop_cons hk] at h1
  refine ⟨?_, by rw [List.length_append, h2, cnt_step hk, if_pos hn]; rfl, by rw [h3, List.drop_drop, size_step hk]⟩
  rw [h1]
  simp only [getL, if_neg (show ¬ rest.length < (ws.getD k 0).natAbs by omega), if_pos hn, except_map_map]
  congr 1
  funext l
  simp
theorem Getting.neg {ws bs acc rest : List Int} {k : Nat} (h : Getting ws bs k acc rest) (hk : k < ws.length) (hn : ¬ 0 < ws.getD k 0) (hl : (ws.getD k 0).natAbs ≤ rest.length) (hz : (rest.take (ws.getD k 0).natAbs).all (· == 0) = true) :
    Getting ws bs (k + 1) acc (rest.drop (ws.getD k 0).natAbs) := by
  obtain ⟨h1, h2, h3⟩ := h
  rw [drop_cons hk] at h1
  refine ⟨?_, by rw [h2, cnt_step hk, if_neg hn]; rfl, by rw [h3, List.drop_drop, size_step hk]⟩
  rw [h1]
  simp only [getL, if_neg (show ¬ rest.length < (ws.getD k 0).natAbs by omega), if_neg hn, hz, if_true]
theorem Getting.odd {ws bs acc rest : List Int} {k : Nat} (h : Getting ws bs k acc rest) (hk : k < ws.length) (hn : ¬ 0 < ws.getD k 0) (hl : (ws.getD k 0).natAbs ≤ rest.length) (hz : (rest.take (ws.getD k 0).natAbs).all (· == 0) = false) :
    getL ws bs = .error 2 := by
  obtain ⟨h1, h2, h3⟩ := h
  rw [drop_cons hk] at h1
  rw [h1]
  simp only [getL, if_neg (show ¬ rest.length < (ws.getD k 0).natAbs by omega), if_neg hn, hz]
  rfl
theorem Getting.short {ws bs acc rest : List Int} {k : Nat} (h : Getting ws bs k acc rest) (hk : k < ws.length) (hl : rest.length < (ws.getD k 0).natAbs) : getL ws bs = .error 1 := by
  obtain ⟨h1, h2, h3⟩ := h
  rw [drop_cons hk] at h1
  rw [h1]
  simp only [getL, if_pos hl]
  rfl
theorem Getting.done {ws bs acc rest : List Int} (h : Getting ws bs ws.length acc rest) : getL ws bs = .ok acc := by
  rw [h.1, List.drop_length]; simp [getL, Except.map]

theorem getS_ok {ws bs l : List Int} (hr : RightS ws = true) (h : getL ws bs = .ok l) : getS ws bs = (l, 0) := by simp [getS, hr, h]
theorem getS_err {ws bs : List Int} {e : Int} (hr : RightS ws = true) (h : getL ws bs = .error e) : getS ws bs = ([], e) := by simp [getS, hr, h]
theorem getS_bad {ws bs : List Int} (hr : RightS ws = false) : getS ws bs = ([], 2) := by simp [getS, hr]
theorem getS_u64 {ws bs : List Int} (hb : U8 bs) : U64 (getS ws bs).1 := by
  cases hr : RightS ws with
  | false => rw [getS_bad hr]; intro z hz; simp at hz
  | true =>
    cases hg : getL ws bs with
    | ok l => rw [getS_ok hr hg]; exact (put_get (right_all hr) hb hg).2.2.2
    | error e => rw [getS_err hr hg]; intro z hz; simp at hz

/-- What Get hands back. -/
def GotS (w : World) (ws bs : List Int) (e : Ending) (w' : World) : Prop :=
  ∃ v, e = .returned (.tuple #[v, .int .i64 (getS ws bs).2]) ∧ w'.ownsRow w.heap.size 68 1 v (getS ws bs).1.length ((getS ws bs).1.map (Value.int .u64)) ∧ Below w.heap.size w w'
theorem GotS.err {w w' : World} {ws bs : List Int} {e : Int} (h : getS ws bs = ([], e)) (hb : Below w.heap.size w w') : GotS w ws bs (.returned (.tuple #[.slice none 0 0, .int .i64 e])) w' :=
  ⟨.slice none 0 0, by rw [h], by rw [h]; exact World.ownsRow_nil _ _ _ _, hb⟩
theorem GotS.ok {w w' : World} {ws bs l : List Int} {v : Value} (h : getS ws bs = (l, 0)) (ho : w'.ownsRow w.heap.size 68 1 v l.length (l.map (Value.int .u64))) (hb : Below w.heap.size w w') : GotS w ws bs (.returned (.tuple #[v, .int .i64 0])) w' :=
  ⟨v, by rw [h], by rw [h]; exact ho, hb⟩

set_option maxRecDepth 100000 in
set_option maxHeartbeats 400000 in
theorem row_get (v1 v2 : Value) (ws bs : List Int) (w : World) (h1 : Ints .i64 w v1 ws) (h2 : Ints .u8 w v2 bs) :
    Calls Tryz.prog 125 #[v1, v2] w (GotS w ws bs) := by
  have R1 := Lib.hid (row_right v1 ws w h1)
  obtain ⟨a, cap, b, off, rfl, -, -, -, ha, hc⟩ := h1.open
  have H1 := Lib.hid ha
  have H3 := Lib.hid hc
  have H2 := Lib.hid h2
  have hU := Lib.hid h2.u8
  obtain ⟨a2, cap2, b2, off2, rfl, -⟩ := h2.open
  clear ha hc h1 h2
  cases hr : RightS ws with
  | false =>
    rw [hr] at R1
    have HG : Hid (getS ws bs = ([], 2)) := getS_bad hr
    clear hr
    go_enter Tryz.func125, Tryz.ntmps125
    go_wp2_with (first | (go_at_call 116; refine R1.out.mono ?_; rintro e w' ⟨rfl, rfl⟩))
    go_ret2
    exact GotS.err HG.out (Below.refl _ _)
  | true =>
    rw [hr] at R1
    have hwl := right_len hr
    have hal := Lib.hid (right_all hr)
    have HRW := Lib.hid hr
    clear hr
    go_enter Tryz.func125, Tryz.ntmps125
    go_wp2_with (first | (go_at_call 116; refine R1.out.mono ?_; rintro e w' ⟨rfl, rfl⟩))
    go_loopw [1, 4, 5, 6, 15] (fun bv ov fv outv i wr => ∃ (k : Nat) (acc rest : List Int), k ≤ ws.length ∧ i = .int .i64 k ∧ ov = .slice none 0 0 ∧ fv = .int .i64 0 ∧ Hid (Ints .u8 w bv rest) ∧ Hid (wr.ownsRow w.heap.size 68 1 outv acc.length (acc.map (Value.int .u64))) ∧ Hid (Below w.heap.size w wr) ∧ Hid (Getting ws bs k acc rest)) (fun _ _ _ _ i _ => ws.length - (intOf i).toNat)
    case atStart => exact ⟨0, [], bs, by omega, rfl, rfl, rfl, H2.out, World.ownsRow_nil _ _ _ _, Below.refl _ _, Getting.start ws bs⟩
    case round =>
      obtain ⟨k, acc, rest, hk, rfl, rfl, rfl, HN, HA, HBB, HP⟩ := hrel
      obtain ⟨a3, cap3, b3, off3, rfl, -⟩ := HN.out.open
      have hrl := HN.out.le
      by_cases hlt : k < ws.length
      · obtain rfl := H1.out (by omega)
        have hok := okW_iff.1 (all_get hal.out hlt)
        have hcell0 := (HBB.out.cell (p := ⟨b, off + k, none⟩) (by exact World.block_lt_of_cell? _ _ (H3.out k hlt))).trans (H3.out k hlt)
        obtain ⟨n, hx, hcell⟩ := name_cell hcell0
        clear hcell0
        rw [← hx] at hok
        obtain ⟨hn0, hn8, hn64⟩ := hok
        have HX := Lib.hid hx
        clear hx
        have hacc : acc.length ≤ 64 := by
          have h3 := HP.out.2.1
          have := cntL_le (ws.take k)
          rw [List.length_take] at this
          omega
        by_cases hs : (rest.length : Int) < n.natAbs
        · have HE : Hid (getS ws bs = ([], 1)) := getS_err HRW.out (HP.out.short hlt (by rw [← HX.out]; omega))
          rcases (show n < 0 ∨ 0 < n by omega) with hneg | hpos
          · have hs' : (rest.length : Int) < -n := by omega
            clear hs
            go_wp2_with fail
            go_ret2
            exact GotS.err HE.out HBB.out
          · have hs' : (rest.length : Int) < n := by omega
            clear hs
            go_wp2_with fail
            go_ret2
            exact GotS.err HE.out HBB.out
        · rcases (show n < 0 ∨ 0 < n by omega) with hneg | hpos
          · have hs' : ¬ (rest.length : Int) < -n := by omega
            have hml : n.natAbs ≤ rest.length := by omega
            clear hs
            obtain ⟨A, hsl, hA⟩ := slice_upto (P := Tryz.prog) Tryz.underlying24 info_u8 HN.out (-n) n.natAbs (by omega) hml
            obtain ⟨A', hsl', hA'⟩ := slice_from (P := Tryz.prog) Tryz.underlying24 info_u8 HN.out (-n) n.natAbs (by omega) hml
            have HSA := Lib.hid hA
            have HSA' := Lib.hid hA'
            have HZ := Lib.hid (row_zero _ _ wr (hA.below HBB.out))
            clear hA hA' hml
            cases hz : (rest.take n.natAbs).all (· == 0) with
            | true =>
              rw [hz] at HZ
              have HP1 : Hid (Getting ws bs (k + 1) acc (rest.drop n.natAbs)) := by
                have := HP.out.neg hlt (by rw [← HX.out]; omega) (by rw [← HX.out]; omega) (by rw [← HX.out]; exact hz)
                rwa [← HX.out] at this
              clear hz
              go_wp2_with (go_at_call 130; (with_reducible refine HZ.out.mono ?_); rintro e w' ⟨rfl, rfl⟩)
              go_roundw
              case rel => exact ⟨k + 1, acc, rest.drop n.natAbs, by omega, by go_num, rfl, rfl, HSA'.out, HA.out, HBB.out, HP1⟩
              case measure => simp [intOf]; omega
            | false =>
              rw [hz] at HZ
              have HE : Hid (getS ws bs = ([], 2)) := getS_err HRW.out (HP.out.odd hlt (by rw [← HX.out]; omega) (by rw [← HX.out]; omega) (by rw [← HX.out]; exact hz))
              clear hz
              go_wp2_with (go_at_call 130; (with_reducible refine HZ.out.mono ?_); rintro e w' ⟨rfl, rfl⟩)
              go_ret2
              exact GotS.err HE.out HBB.out
          · have hs' : ¬ (rest.length : Int) < n := by omega
            have hml : n.natAbs ≤ rest.length := by omega
            clear hs
            obtain ⟨A, hsl, hA⟩ := slice_upto (P := Tryz.prog) Tryz.underlying24 info_u8 HN.out n n.natAbs (by omega) hml
            obtain ⟨A', hsl', hA'⟩ := slice_from (P := Tryz.prog) Tryz.underlying24 info_u8 HN.out n n.natAbs (by omega) hml
            have HSA := Lib.hid hA
            have HSA' := Lib.hid hA'
            have HZ := Lib.hid (row_number _ _ wr (hA.below HBB.out) (by rw [List.length_take]; omega))
            have HP1 : Hid (Getting ws bs (k + 1) (acc ++ [valL (rest.take n.natAbs)]) (rest.drop n.natAbs)) := by
              have := HP.out.pos hlt (by rw [← HX.out]; omega) (by rw [← HX.out]; omega)
              rwa [← HX.out] at this
            clear hA hA' hml
            generalize valL (rest.take n.natAbs) = V at *
            go_wp2_with (first | (go_at_call 129; (with_reducible refine HZ.out.mono ?_); rintro e w' ⟨rfl, rfl⟩) | (at_builtin; refine wpList_append_new rfl _ _ _ rfl w.heap.size 68 (.int .u64 0) 1 8 Tryz.underlying23 info_u64 rfl (by decide) u6 acc.length _ rfl HA.out [.int .u64 V] rfl rfl (by simp [Value.oneCell']) (by unfold maxLen; omega) (by omega) HBB.out.size ?_; intro v' w1 hown1 hgrow1; have HO1 := Lib.hid hown1; have HG1 := Lib.hid hgrow1; clear hown1 hgrow1))
            go_roundw
            case rel => exact ⟨k + 1, acc ++ [V], rest.drop n.natAbs, by omega, by go_num, rfl, rfl, HSA'.out, by simpa [Hid] using HO1.out, own_grown HBB.out HBB.out.size HA.out HG1.out rfl, HP1⟩
            case measure => simp [intOf]; omega
      · obtain rfl : k = ws.length := by omega
        go_wp2_with fail
        go_ret2
        exact GotS.ok (getS_ok HRW.out HP.out.done) HA.out HBB.out

end Go.Proofs.YtcebcncpbedkmaaGreat
namespace Go.Proofs.YtcebcncpbedkmaaGreat
open Go.RowKit

theorem take_drop_mid (bs : List Int) (S m : Nat) : (bs.take (S + m)).drop S = (bs.drop S).take m := by
  rw [List.drop_take]; congr 1; omega

theorem all_zero_step {zs : List Int} {j : Nat} (hj : j < zs.length) (h : (zs.take j).all (· == 0) = true) (h0 : zs.getD j 0 = 0) : (zs.take (j + 1)).all (· == 0) = true := by
  rw [take_snoc hj, List.all_append, h, h0]; rfl
theorem all_zero_not {zs : List Int} {j m : Nat} (hj : j < m) (hm : m ≤ zs.length) (h0 : zs.getD j 0 ≠ 0) : (zs.take m).all (· == 0) = false := by
  rw [← Bool.not_eq_true]; intro hh
  have hj' : j < (zs.take m).length := by rw [List.length_take]; omega
  have := List.all_eq_true.1 hh _ (getD_mem hj')
  have e : (zs.take m).getD j 0 = zs.getD j 0 := by simp [List.getD, hj]
  rw [e] at this
  exact h0 (by simpa using this)

end Go.Proofs.YtcebcncpbedkmaaGreat
namespace Go.Proofs.YtcebcncpbedkmaaGreat
open Go.RowKit

theorem Ints.alloc {k : IntKind} {w : World} {v : Value} {zs : List Int} (h : Ints k w v zs) (o : Obj) : Ints k (w.alloc o) v zs :=
  h.below ((Below.refl _ _).alloc (Nat.le_refl _) o)
/-- A literal slice, in a block of its own. -/
theorem Ints.lit (k : IntKind) (w : World) (t : TypeId) (zs : List Int) (b : Nat) (hb : w.heap.size = b) (hn : zs.length ≤ 1000) (hw : ∀ z ∈ zs, (Lit.int k z).wf = true) :
    Ints k (w.alloc (.cells (zs.map (Value.int k)).toArray t)) (.slice (some ⟨b, 0, none⟩) zs.length zs.length) zs := by
  subst hb
  exact ⟨Sl.new w (zs.map (Value.int k)) t zs.length (by unfold maxLen; omega), hw⟩

theorem below_alloc2 {w : World} (o : Obj) : Below w.heap.size w (w.alloc o) := (Below.refl _ _).alloc (Nat.le_refl _) o

theorem below1 {w w1 : World} {o : Obj} (h : Below (w.alloc o).heap.size (w.alloc o) w1) : Below w.heap.size w w1 :=
  (below_alloc2 o).trans (h.mono (by simp))
theorem below2 {w w1 : World} {o o' : Obj} (h : Below ((w.alloc o).alloc o').heap.size ((w.alloc o).alloc o') w1) : Below w.heap.size w w1 := below1 (below1 h)

theorem putS_u8 (ws xs : List Int) : U8 ((putS ws xs).getD []) := by
  unfold putS
  split
  · cases h : putL ws xs with
    | none => intro z hz; simp at hz
    | some b => exact putL_byte h
  · intro z hz; simp at hz

/-- What Put hands back, read. -/
def PutI (w : World) (ws xs : List Int) (e : Ending) (w' : World) : Prop :=
  ∃ v, e = .returned (.tuple #[v, .bool (putS ws xs).isSome]) ∧ Ints .u8 w' v ((putS ws xs).getD []) ∧ Below w.heap.size w w'
theorem row_put_i (v1 v2 : Value) (ws xs : List Int) (w : World) (h1 : Ints .i64 w v1 ws) (h2 : Ints .u64 w v2 xs) :
    Calls Tryz.prog 108 #[v1, v2] w (PutI w ws xs) :=
  (row_put v1 v2 ws xs w h1 h2).mono fun _ _ ⟨v, he, ho, hb⟩ => ⟨v, he, Ints.of_own ho (putS_u8 ws xs).wf, hb⟩
/-- What Get hands back, read. -/
def GetI (w : World) (ws bs : List Int) (e : Ending) (w' : World) : Prop :=
  ∃ v, e = .returned (.tuple #[v, .int .i64 (getS ws bs).2]) ∧ Ints .u64 w' v (getS ws bs).1 ∧ Below w.heap.size w w'
theorem row_get_i (v1 v2 : Value) (ws bs : List Int) (w : World) (h1 : Ints .i64 w v1 ws) (h2 : Ints .u8 w v2 bs) :
    Calls Tryz.prog 125 #[v1, v2] w (GetI w ws bs) :=
  (row_get v1 v2 ws bs w h1 h2).mono fun _ _ ⟨v, he, ho, hb⟩ => ⟨v, he, Ints.of_own ho (getS_u64 h2.u8).wf, hb⟩
end Go.Proofs.YtcebcncpbedkmaaGreat
