/- The walks of plain.Read and of the document's (gunwaleref22.Read): both hand back the same message. Conditions: the argument reads as bytes. -/
import Derived.Test.YtfaklenclhljhaaPlB
import Derived.Great.BuildSlice
namespace Go.Proofs.Ytfaklenclhljhaa
open Go.RowKit
set_option maxRecDepth 100000
set_option maxHeartbeats 4000000

theorem results_row_tmp {P : Program} {fn : Func} {p u : Tmp} {ty : TypeId} (h : fn.results = #[.cell p ty, .tmp u]) (tmps : Array Value) (w : World) (g : Nat) (t : TypeId) (cs : Array Value) (fr : Nat × Nat) (d : TypeDesc)
    (hp : tmps.getD p undef = .pointer (some ⟨g, 0, none⟩)) (hg : w.heap[g]? = some (.cells cs t fr))
    (hu : P.underlying ty = some d) (hd : (match d with | .struct _ | .array _ _ => true | _ => false) = true) (hi : (P.info? ty).map (·.size) = some cs.size) :
    (results fn tmps).run P w = .ok (.tuple #[.agg cs, tmps.getD u undef]) w := by
  have hp' : tmps[p]?.getD undef = .pointer (some ⟨g, 0, none⟩) := by simpa using hp
  simp [results, h, hp', asAddr, run_loadVar_row w g t ty cs fr d hg hu hd hi]
theorem below_setRow {B g : Nat} {w0 w : World} (h : Below B w0 w) (hg : B ≤ g) (cs : Array Value) : Below B w0 (w.setRow g cs) :=
  ⟨h.os, h.tape, h.output, by rw [setRow_size]; exact h.size, fun k hk => (setRow_other w g k cs (by omega)).trans (h.block k hk)⟩
theorem cell_heap {w : World} {g : Nat} {cs : Array Value} {t : TypeId} {fr : Nat × Nat} (h : w.heap[g]? = some (.cells cs t fr)) (i : Nat) : w.cell? ⟨g, i, none⟩ = cs[i]? := by
  simp only [World.cell?, h]
  rfl

theorem below_row {B : Nat} {w w1 w2 : World} {p : Nat} (hb : Below B w w1) (hs : B ≤ w1.heap.size) (hg : w1.grownBy w2 (some p)) (hp : B ≤ p) : Below B w w2 :=
  hb.grown hg hs fun k e => by injection e with e; omega
theorem ints_setRow {k : IntKind} {w : World} {v : Value} {zs : List Int} {g : Nat} (h : Ints k w v zs) (hg : ∀ b, v.ownBlock = some b → b ≠ g) (cs : Array Value) : Ints k (w.setRow g cs) v zs :=
  h.grown (row := some g) ⟨rfl, rfl, rfl, by rw [setRow_size]; exact Nat.le_refl _, fun k _ hk => setRow_other w g k cs (fun e => hk (by rw [e]))⟩ (fun b e e' => hg b e (by injection e'))

/-- A message of a type, numbers and data; nothing else. -/
abbrev nilV : Value := .slice none 0 0
abbrev msgA (ty : Int) (vn vd : Value) : Array Value := #[.int .i64 ty, .int .u32 0, vn, vd, nilV, nilV, nilV, nilV, nilV, nilV, nilV, nilV, .int .i64 0, .int .i64 0, nilV]

/-- What Read hands back. -/
def GotMsg (w : World) (ty : Int) (l : List Int) (er : Int) (e : Ending) (w' : World) : Prop :=
  ∃ vn, e = .returned (.tuple #[.agg (msgA ty vn nilV), .int .i64 er]) ∧ Ints .u64 w' vn l ∧ Below w.heap.size w w'

def readS (t : Int) (bs : List Int) : (Int × List Int) × Int :=
  if (rowS t).2 = false then ((0, []), 10001)
  else if bs.length ≠ sizeS (rowS t).1 then ((0, []), 263)
  else if (getS (rowS t).1 bs).2 ≠ 0 then ((0, []), 269)
  else if askedS t (getS (rowS t).1 bs).1 ≠ 0 then ((0, []), askedS t (getS (rowS t).1 bs).1)
  else ((t, (getS (rowS t).1 bs).1), 0)

/-- As many bytes as the row has are not too few. -/
theorem getL_size {ws bs : List Int} (h : getL ws bs = .error 1) : bs.length < sizeL ws := by
  induction ws generalizing bs with
  | nil => simp [getL] at h
  | cons n ws ih =>
    simp only [getL] at h
    simp only [sizeL]
    split at h
    · omega
    · rename_i hlt
      split at h
      · cases hg : getL ws (bs.drop n.natAbs) with
        | ok l => rw [hg] at h; simp [Except.map] at h
        | error e => rw [hg] at h; simp [Except.map] at h; subst h; have := ih hg; rw [List.length_drop] at this; omega
      · split at h
        · have := ih h; rw [List.length_drop] at this; omega
        · simp at h
theorem rowS_right (t : Int) : RightS (rowS t).1 = true := by
  have := rowS_cases t
  rcases this with h | h | h | h | h | h | h | h | h | h | h | h | h | h | h | h <;> (rw [h.2]; decide)
theorem rowS_get {t : Int} {bs : List Int} (hu : U8 bs) (hs : bs.length = sizeS (rowS t).1) : ((getS (rowS t).1 bs).2 = 0 ∧ (getS (rowS t).1 bs).1.length = cntL (rowS t).1) ∨ ((getS (rowS t).1 bs).2 = 2 ∧ (getS (rowS t).1 bs).1 = []) := by
  have hr := rowS_right t
  cases hg : getL (rowS t).1 bs with
  | ok l =>
    rw [getS_ok hr hg]
    obtain ⟨-, h2, -⟩ := put_get (right_all hr) hu hg
    exact .inl ⟨rfl, h2.symm⟩
  | error e =>
    rw [getS_err hr hg]
    rcases getL_err hg with rfl | rfl
    · have := getL_size hg
      rw [sizeS, hr, if_pos rfl] at hs
      omega
    · exact .inr ⟨rfl, rfl⟩
theorem rowS_asked {t : Int} {l : List Int} (h : l.length = cntL (rowS t).1) : askedOk t l := by
  refine ⟨fun ht => ?_, fun ht => ?_, fun ht => ?_⟩
  · rcases ht with rfl | rfl | rfl | rfl | rfl <;> (simp [rowS, cntL] at h; omega)
  · subst ht; simp [rowS, cntL] at h; omega
  · subst ht; simp [rowS, cntL] at h; omega

theorem plain_read (t : Int) (va : Value) (bs : List Int) (w : World) (h : Ints .u8 w va bs) (hl : bs.length ≤ 1000000000) :
    Calls Try.prog 17 #[.int .i64 t, va] w (GotMsg w (readS t bs).1.1 (readS t bs).1.2 (readS t bs).2) := by
  have HR := fun w => Lib.hid (plain_rows t w)
  have HBx : Hid (Below w.heap.size w (w.alloc (.cells (msgA 0 nilV nilV) 35))) := below_alloc2 _
  have HX := Lib.hid (h.below HBx.out)
  have hu := h.u8
  have hle := h.le
  by_cases h1 : (rowS t).2 = false
  · have hq : readS t bs = ((0, []), 10001) := by rw [readS, if_pos h1]
    rw [hq]
    rw [h1] at HR
    obtain ⟨av, capv, bv, offv, rfl, -⟩ := h.open
    clear h hq h1 hu
    go_enter Try.func17, Try.ntmps17
    go_wp2_with (first
      | (go_at_call 40; (with_reducible refine (HR _).out.mono ?_); rintro e w1 ⟨vw, rfl, hw, hb⟩; have HB1 := Lib.hid hb; have HH1 := Lib.hid ((hb.block w.heap.size (by simp)).trans (heap_alloc_new _ _)); have HW1 := Lib.hid hw; have HS1 := Lib.hid (row_size _ _ _ hw); clear hw hb)
      | (refine wpList_store_rowTo rfl 35 _ _ rfl rfl w.heap.size (msgA 0 nilV nilV) rfl rfl _ _ HH1.out (by kernel_rfl) (by kernel_rfl) (by kernel_rfl) ?_; have hheap := setRow_heap w1 w.heap.size _ (msgA 0 nilV nilV) _ _ HH1.out; have HB9 := Lib.hid (below_setRow (below1 HB1.out) (Nat.le_refl _) (msgA 0 nilV nilV))))
    refine bodyPost_ret (results_row_tmp rfl _ _ w.heap.size _ _ _ _ rfl hheap Try.underlying35 rfl (by kernel_rfl)) rfl ?_
    exact ⟨_, rfl, Ints.nil _ _, HB9.out⟩
  have h1' : (rowS t).2 = true := by simpa using h1
  by_cases h2 : bs.length = sizeS (rowS t).1
  case neg =>
    have hq : readS t bs = ((0, []), 263) := by rw [readS, if_neg h1, if_pos h2]
    rw [hq]
    rw [h1'] at HR
    generalize (rowS t).1 = ws at HR h2
    have e1 : ((bs.length : Int) != (sizeS ws : Int)) = true := by simp; omega
    obtain ⟨av, capv, bv, offv, rfl, -⟩ := h.open
    clear h hq h1 h1' h2 hu
    go_enter Try.func17, Try.ntmps17
    go_wp2_with (first
      | (go_at_call 40; (with_reducible refine (HR _).out.mono ?_); rintro e w1 ⟨vw, rfl, hw, hb⟩; have HB1 := Lib.hid hb; have HH1 := Lib.hid ((hb.block w.heap.size (by simp)).trans (heap_alloc_new _ _)); have HW1 := Lib.hid hw; have HS1 := Lib.hid (row_size _ _ _ hw); clear hw hb)
      | (go_at_call 48; (with_reducible refine HS1.out.mono ?_); rintro e w2 ⟨rfl, rfl⟩)
      | (refine wpList_store_rowTo rfl 35 _ _ rfl rfl w.heap.size (msgA 0 nilV nilV) rfl rfl _ _ HH1.out (by kernel_rfl) (by kernel_rfl) (by kernel_rfl) ?_; have hheap := setRow_heap w1 w.heap.size _ (msgA 0 nilV nilV) _ _ HH1.out; have HB9 := Lib.hid (below_setRow (below1 HB1.out) (Nat.le_refl _) (msgA 0 nilV nilV))))
    refine bodyPost_ret (results_row_tmp rfl _ _ w.heap.size _ _ _ _ rfl hheap Try.underlying35 rfl (by kernel_rfl)) rfl ?_
    exact ⟨_, rfl, Ints.nil _ _, HB9.out⟩
  have hg := rowS_get (t := t) hu h2
  have hask := fun hc => rowS_asked (t := t) (l := (getS (rowS t).1 bs).1) hc
  have e1 : ((bs.length : Int) != (sizeS (rowS t).1 : Int)) = false := by simp; omega
  rw [h1'] at HR
  rcases hg with hg | hg
  case inr =>
    have hq : readS t bs = ((0, []), 269) := by rw [readS, if_neg h1, if_neg (by simpa using h2), if_pos (by rw [hg.1]; decide)]
    rw [hq]
    generalize (rowS t).1 = ws at HR h2 hg e1
    have HSt : Hid ((St.fresh bs 263 269).row ws = ((St.fresh bs 263 269).fail 269, [])) := row_odd rfl (show (getS ws (St.fresh bs 263 269).rest).2 = 2 from hg.1)
    have HU : Hid (U64 []) := fun z hz => by simp at hz
    obtain ⟨av, capv, bv, offv, rfl, -⟩ := h.open
    clear h hq h1 h1' h2 hu hg hask
    go_enter Try.func17, Try.ntmps17
    go_wp2_with (first
      | (go_at_call 40; (with_reducible refine (HR _).out.mono ?_); rintro e w1 ⟨vw, rfl, hw, hb⟩; have HB1 := Lib.hid hb; have HH1 := Lib.hid ((hb.block w.heap.size (by simp)).trans (heap_alloc_new _ _)); have HW1 := Lib.hid hw; have HS1 := Lib.hid (row_size _ _ _ hw); clear hw hb)
      | (go_at_call 48; (with_reducible refine HS1.out.mono ?_); rintro e w2 ⟨rfl, rfl⟩)
      | (go_at_call 49; (with_reducible refine (cur_new (HX.out.below HB1.out) hl 263 269).mono ?_); rintro e w2 ⟨p, rfl, hc, hb⟩; have HB2 := Lib.hid (HB1.out.trans (hb.mono HB1.out.size)); have HP := Lib.hid (Nat.le_trans HB1.out.size hc.from); have HRow := cur_row hc vw ws (HW1.out.below hb); rw [HSt.out] at HRow; have HRow := Lib.hid HRow; clear hc hb)
      | (go_at_call 50; (with_reducible refine HRow.out.mono ?_); rintro e w3 ⟨vl, rfl, ho, hc, hg⟩; have HB3 := Lib.hid (below_row HB2.out HB2.out.size hg HP.out); have HH3 := Lib.hid ((HB3.out.block w.heap.size (by simp)).trans (heap_alloc_new _ _)); have HL3 := Lib.hid (Ints.of_own ho HU.out.wf); have HE := Lib.hid (cur_err hc); have hob : ∀ b, vl.ownBlock = some b → b ≠ w.heap.size := (fun b e => by have := (ho.lt b e).1; have := HB2.out.size; simp at this; omega); obtain ⟨al, capl, rfl⟩ := own_slice ho; have HOb := Lib.hid hob; clear ho hc hg hob)
      | (go_at_call 51; (with_reducible refine HE.out.mono ?_); rintro e w4 ⟨rfl, rfl⟩)
      | (refine wpList_store_rowTo rfl 35 _ _ rfl rfl w.heap.size (msgA 0 nilV nilV) rfl rfl _ _ HH3.out (by kernel_rfl) (by kernel_rfl) (by kernel_rfl) ?_; have hheap := setRow_heap w3 w.heap.size _ (msgA 0 nilV nilV) _ _ HH3.out; have HB9 := Lib.hid (below_setRow (below1 HB3.out) (Nat.le_refl _) (msgA 0 nilV nilV))))
    refine bodyPost_ret (results_row_tmp rfl _ _ w.heap.size _ _ _ _ rfl hheap Try.underlying35 rfl (by kernel_rfl)) rfl ?_
    exact ⟨_, rfl, Ints.nil _ _, HB9.out⟩
  case inl =>
    have hok := hask hg.2
    have hl64 : U64 (getS (rowS t).1 bs).1 := getS_u64 hu
    by_cases h3 : askedS t (getS (rowS t).1 bs).1 = 0
    · have hq : readS t bs = ((t, (getS (rowS t).1 bs).1), 0) := by rw [readS, if_neg h1, if_neg (by simpa using h2), if_neg (by rw [hg.1]; decide), if_neg (by simpa using h3)]
      rw [hq]
      generalize hll : (getS (rowS t).1 bs).1 = l at hok h3 hl64 hg ⊢
      generalize (rowS t).1 = ws at HR h2 hg e1 hll
      have HU := Lib.hid hl64
      have HSt : Hid ((St.fresh bs 263 269).row ws = ({ St.fresh bs 263 269 with pos := 0 + sizeS ws }, l)) := by
        show _ = _
        rw [row_fine rfl (show (getS ws (St.fresh bs 263 269).rest).2 = 0 from hg.1), show (getS ws (St.fresh bs 263 269).rest).1 = l from hll]
        rfl
      have HAs := fun v w h => Lib.hid (plain_asked t v l w h hok)
      rw [h3] at HAs
      obtain ⟨av, capv, bv, offv, rfl, -⟩ := h.open
      clear h hq h1 h1' h2 hu hg hask hll hl64 hok h3
      go_enter Try.func17, Try.ntmps17
      go_wp2_with (first
        | (go_at_call 40; (with_reducible refine (HR _).out.mono ?_); rintro e w1 ⟨vw, rfl, hw, hb⟩; have HB1 := Lib.hid hb; have HH1 := Lib.hid ((hb.block w.heap.size (by simp)).trans (heap_alloc_new _ _)); have HW1 := Lib.hid hw; have HS1 := Lib.hid (row_size _ _ _ hw); clear hw hb)
        | (go_at_call 48; (with_reducible refine HS1.out.mono ?_); rintro e w2 ⟨rfl, rfl⟩)
        | (go_at_call 49; (with_reducible refine (cur_new (HX.out.below HB1.out) hl 263 269).mono ?_); rintro e w2 ⟨p, rfl, hc, hb⟩; have HB2 := Lib.hid (HB1.out.trans (hb.mono HB1.out.size)); have HP := Lib.hid (Nat.le_trans HB1.out.size hc.from); have HRow := cur_row hc vw ws (HW1.out.below hb); rw [HSt.out] at HRow; have HRow := Lib.hid HRow; clear hc hb)
        | (go_at_call 50; (with_reducible refine HRow.out.mono ?_); rintro e w3 ⟨vl, rfl, ho, hc, hg⟩; have HB3 := Lib.hid (below_row HB2.out HB2.out.size hg HP.out); have HH3 := Lib.hid ((HB3.out.block w.heap.size (by simp)).trans (heap_alloc_new _ _)); have HL3 := Lib.hid (Ints.of_own ho HU.out.wf); have HE := Lib.hid (cur_err hc); have hob : ∀ b, vl.ownBlock = some b → b ≠ w.heap.size := (fun b e => by have := (ho.lt b e).1; have := HB2.out.size; simp at this; omega); obtain ⟨al, capl, rfl⟩ := own_slice ho; have HOb := Lib.hid hob; clear ho hc hg hob)
        | (go_at_call 51; (with_reducible refine HE.out.mono ?_); rintro e w4 ⟨rfl, rfl⟩)
        | (go_at_call 43; (with_reducible refine (HAs _ _ HL3.out).out.mono ?_); rintro e w5 ⟨rfl, hb⟩; have HB5 := Lib.hid (HB3.out.trans (hb.mono HB3.out.size)); have HH5 := Lib.hid ((HB5.out.block w.heap.size (by simp)).trans (heap_alloc_new _ _)); have HL4 := Lib.hid (HL3.out.below hb); clear hb)
        | (refine wpList_store_rowTo rfl 35 _ _ rfl rfl w.heap.size (msgA t (.slice al l.length capl) nilV) rfl rfl _ _ HH5.out (by kernel_rfl) (by kernel_rfl) (by kernel_rfl) ?_; have hheap := setRow_heap w5 w.heap.size _ (msgA t (.slice al l.length capl) nilV) _ _ HH5.out; have HB9 := Lib.hid (below_setRow (below1 HB5.out) (Nat.le_refl _) (msgA t (.slice al l.length capl) nilV))))
      refine bodyPost_ret (results_row_tmp rfl _ _ w.heap.size _ _ _ _ rfl hheap Try.underlying35 rfl (by kernel_rfl)) rfl ?_
      exact ⟨_, rfl, ints_setRow HL4.out HOb.out _, HB9.out⟩
    · have hq : readS t bs = ((0, []), askedS t (getS (rowS t).1 bs).1) := by rw [readS, if_neg h1, if_neg (by simpa using h2), if_neg (by rw [hg.1]; decide), if_pos h3]
      rw [hq]
      generalize hll : (getS (rowS t).1 bs).1 = l at hok h3 hl64 hg ⊢
      generalize (rowS t).1 = ws at HR h2 hg e1 hll
      have HU := Lib.hid hl64
      have HSt : Hid ((St.fresh bs 263 269).row ws = ({ St.fresh bs 263 269 with pos := 0 + sizeS ws }, l)) := by
        show _ = _
        rw [row_fine rfl (show (getS ws (St.fresh bs 263 269).rest).2 = 0 from hg.1), show (getS ws (St.fresh bs 263 269).rest).1 = l from hll]
        rfl
      have HAs := fun v w h => Lib.hid (plain_asked t v l w h hok)
      have e3 : (askedS t l != 0) = true := by simpa using h3
      obtain ⟨av, capv, bv, offv, rfl, -⟩ := h.open
      clear h hq h1 h1' h2 hu hg hask hll hl64 hok h3
      go_enter Try.func17, Try.ntmps17
      go_wp2_with (first
        | (go_at_call 40; (with_reducible refine (HR _).out.mono ?_); rintro e w1 ⟨vw, rfl, hw, hb⟩; have HB1 := Lib.hid hb; have HH1 := Lib.hid ((hb.block w.heap.size (by simp)).trans (heap_alloc_new _ _)); have HW1 := Lib.hid hw; have HS1 := Lib.hid (row_size _ _ _ hw); clear hw hb)
        | (go_at_call 48; (with_reducible refine HS1.out.mono ?_); rintro e w2 ⟨rfl, rfl⟩)
        | (go_at_call 49; (with_reducible refine (cur_new (HX.out.below HB1.out) hl 263 269).mono ?_); rintro e w2 ⟨p, rfl, hc, hb⟩; have HB2 := Lib.hid (HB1.out.trans (hb.mono HB1.out.size)); have HP := Lib.hid (Nat.le_trans HB1.out.size hc.from); have HRow := cur_row hc vw ws (HW1.out.below hb); rw [HSt.out] at HRow; have HRow := Lib.hid HRow; clear hc hb)
        | (go_at_call 50; (with_reducible refine HRow.out.mono ?_); rintro e w3 ⟨vl, rfl, ho, hc, hg⟩; have HB3 := Lib.hid (below_row HB2.out HB2.out.size hg HP.out); have HH3 := Lib.hid ((HB3.out.block w.heap.size (by simp)).trans (heap_alloc_new _ _)); have HL3 := Lib.hid (Ints.of_own ho HU.out.wf); have HE := Lib.hid (cur_err hc); have hob : ∀ b, vl.ownBlock = some b → b ≠ w.heap.size := (fun b e => by have := (ho.lt b e).1; have := HB2.out.size; simp at this; omega); obtain ⟨al, capl, rfl⟩ := own_slice ho; have HOb := Lib.hid hob; clear ho hc hg hob)
        | (go_at_call 51; (with_reducible refine HE.out.mono ?_); rintro e w4 ⟨rfl, rfl⟩)
        | (go_at_call 43; (with_reducible refine (HAs _ _ HL3.out).out.mono ?_); rintro e w5 ⟨rfl, hb⟩; have HB5 := Lib.hid (HB3.out.trans (hb.mono HB3.out.size)); have HH5 := Lib.hid ((HB5.out.block w.heap.size (by simp)).trans (heap_alloc_new _ _)); clear hb)
        | (refine wpList_store_rowTo rfl 35 _ _ rfl rfl w.heap.size (msgA 0 nilV nilV) rfl rfl _ _ HH5.out (by kernel_rfl) (by kernel_rfl) (by kernel_rfl) ?_; have hheap := setRow_heap w5 w.heap.size _ (msgA 0 nilV nilV) _ _ HH5.out; have HB9 := Lib.hid (below_setRow (below1 HB5.out) (Nat.le_refl _) (msgA 0 nilV nilV))))
      refine bodyPost_ret (results_row_tmp rfl _ _ w.heap.size _ _ _ _ rfl hheap Try.underlying35 rfl (by kernel_rfl)) rfl ?_
      exact ⟨_, rfl, Ints.nil _ _, HB9.out⟩

theorem ref_read22 (t : Int) (va : Value) (bs : List Int) (w : World) (h : Ints .u8 w va bs) (_ : bs.length ≤ 1000000000) :
    Calls Try.prog 18 #[.int .i64 t, va] w (GotMsg w (readS t bs).1.1 (readS t bs).1.2 (readS t bs).2) := by
  have HR := fun w => Lib.hid (ref_row22 t w)
  have HBx : Hid (Below w.heap.size w (w.alloc (.cells (msgA 0 nilV nilV) 35))) := below_alloc2 _
  have HX := Lib.hid (h.below HBx.out)
  have hu := h.u8
  have hle := h.le
  by_cases h1 : (rowS t).2 = false
  · have hq : readS t bs = ((0, []), 10001) := by rw [readS, if_pos h1]
    rw [hq]
    rw [h1] at HR
    obtain ⟨av, capv, bv, offv, rfl, -⟩ := h.open
    clear h hq h1 hu
    go_enter Try.func18, Try.ntmps18
    go_wp2_with (first
      | (go_at_call 44; (with_reducible refine (HR _).out.mono ?_); rintro e w1 ⟨vw, rfl, hw, hb⟩; have HB1 := Lib.hid hb; have HH1 := Lib.hid ((hb.block w.heap.size (by simp)).trans (heap_alloc_new _ _)); have HW1 := Lib.hid hw; have HS1 := Lib.hid (ref_size _ _ _ hw); clear hw hb)
      | (refine wpList_store_rowTo rfl 35 _ _ rfl rfl w.heap.size (msgA 0 nilV nilV) rfl rfl _ _ HH1.out (by kernel_rfl) (by kernel_rfl) (by kernel_rfl) ?_; have hheap := setRow_heap w1 w.heap.size _ (msgA 0 nilV nilV) _ _ HH1.out; have HB9 := Lib.hid (below_setRow (below1 HB1.out) (Nat.le_refl _) (msgA 0 nilV nilV))))
    refine bodyPost_ret (results_row_tmp rfl _ _ w.heap.size _ _ _ _ rfl hheap Try.underlying35 rfl (by kernel_rfl)) rfl ?_
    exact ⟨_, rfl, Ints.nil _ _, HB9.out⟩
  have h1' : (rowS t).2 = true := by simpa using h1
  by_cases h2 : bs.length = sizeS (rowS t).1
  case neg =>
    have hq : readS t bs = ((0, []), 263) := by rw [readS, if_neg h1, if_pos h2]
    rw [hq]
    rw [h1'] at HR
    generalize (rowS t).1 = ws at HR h2
    have e1 : ((bs.length : Int) != (sizeS ws : Int)) = true := by simp; omega
    obtain ⟨av, capv, bv, offv, rfl, -⟩ := h.open
    clear h hq h1 h1' h2 hu
    go_enter Try.func18, Try.ntmps18
    go_wp2_with (first
      | (go_at_call 44; (with_reducible refine (HR _).out.mono ?_); rintro e w1 ⟨vw, rfl, hw, hb⟩; have HB1 := Lib.hid hb; have HH1 := Lib.hid ((hb.block w.heap.size (by simp)).trans (heap_alloc_new _ _)); have HW1 := Lib.hid hw; have HS1 := Lib.hid (ref_size _ _ _ hw); clear hw hb)
      | (go_at_call 52; (with_reducible refine HS1.out.mono ?_); rintro e w2 ⟨rfl, rfl⟩)
      | (refine wpList_store_rowTo rfl 35 _ _ rfl rfl w.heap.size (msgA 0 nilV nilV) rfl rfl _ _ HH1.out (by kernel_rfl) (by kernel_rfl) (by kernel_rfl) ?_; have hheap := setRow_heap w1 w.heap.size _ (msgA 0 nilV nilV) _ _ HH1.out; have HB9 := Lib.hid (below_setRow (below1 HB1.out) (Nat.le_refl _) (msgA 0 nilV nilV))))
    refine bodyPost_ret (results_row_tmp rfl _ _ w.heap.size _ _ _ _ rfl hheap Try.underlying35 rfl (by kernel_rfl)) rfl ?_
    exact ⟨_, rfl, Ints.nil _ _, HB9.out⟩
  have hg := rowS_get (t := t) hu h2
  have hask := fun hc => rowS_asked (t := t) (l := (getS (rowS t).1 bs).1) hc
  have e1 : ((bs.length : Int) != (sizeS (rowS t).1 : Int)) = false := by simp; omega
  rw [h1'] at HR
  rcases hg with hg | hg
  case inr =>
    have hq : readS t bs = ((0, []), 269) := by rw [readS, if_neg h1, if_neg (by simpa using h2), if_pos (by rw [hg.1]; decide)]
    rw [hq]
    generalize (rowS t).1 = ws at HR h2 hg e1
    have HU : Hid (U64 []) := fun z hz => by simp at hz
    have HG : ∀ (w : World) (v1 v2 : Value), Ints .i64 w v1 ws → Ints .u8 w v2 bs → Hid (Calls Try.prog 53 #[v1, v2] w (fun e w' => ∃ v, e = .returned (.tuple #[v, .int .i64 2]) ∧ w'.ownsRow w.heap.size 76 1 v ([] : List Int).length (([] : List Int).map (Value.int .u64)) ∧ Below w.heap.size w w')) := fun w v1 v2 i1 i2 => by
      have := ref_get v1 v2 ws bs w i1 i2
      unfold GotS at this
      rw [hg.1, hg.2] at this
      exact this
    obtain ⟨av, capv, bv, offv, rfl, -⟩ := h.open
    clear h hq h1 h1' h2 hu hg hask
    go_enter Try.func18, Try.ntmps18
    go_wp2_with (first
      | (go_at_call 44; (with_reducible refine (HR _).out.mono ?_); rintro e w1 ⟨vw, rfl, hw, hb⟩; have HB1 := Lib.hid hb; have HH1 := Lib.hid ((hb.block w.heap.size (by simp)).trans (heap_alloc_new _ _)); have HW1 := Lib.hid hw; have HS1 := Lib.hid (ref_size _ _ _ hw); clear hw hb)
      | (go_at_call 52; (with_reducible refine HS1.out.mono ?_); rintro e w2 ⟨rfl, rfl⟩)
      | (go_at_call 53; (with_reducible refine (HG _ _ _ HW1.out (HX.out.below HB1.out)).out.mono ?_); rintro e w3 ⟨vl, rfl, ho, hb⟩; have hil := Ints.of_own ho HU.out.wf; have hob : ∀ b, vl.ownBlock = some b → b ≠ w.heap.size := (fun b e => by have := (ho.lt b e).1; have := HB1.out.size; simp at this; omega); have HB3 := Lib.hid (HB1.out.trans (hb.mono HB1.out.size)); have HH3 := Lib.hid ((HB3.out.block w.heap.size (by simp)).trans (heap_alloc_new _ _)); have HL3 := Lib.hid hil; obtain ⟨al, capl, rfl⟩ := own_slice ho; have HOb := Lib.hid hob; clear ho hil hb hob)
      | (refine wpList_store_rowTo rfl 35 _ _ rfl rfl w.heap.size (msgA 0 nilV nilV) rfl rfl _ _ HH3.out (by kernel_rfl) (by kernel_rfl) (by kernel_rfl) ?_; have hheap := setRow_heap w3 w.heap.size _ (msgA 0 nilV nilV) _ _ HH3.out; have HB9 := Lib.hid (below_setRow (below1 HB3.out) (Nat.le_refl _) (msgA 0 nilV nilV))))
    refine bodyPost_ret (results_row_tmp rfl _ _ w.heap.size _ _ _ _ rfl hheap Try.underlying35 rfl (by kernel_rfl)) rfl ?_
    exact ⟨_, rfl, Ints.nil _ _, HB9.out⟩
  case inl =>
    have hok := hask hg.2
    have hl64 : U64 (getS (rowS t).1 bs).1 := getS_u64 hu
    by_cases h3 : askedS t (getS (rowS t).1 bs).1 = 0
    · have hq : readS t bs = ((t, (getS (rowS t).1 bs).1), 0) := by rw [readS, if_neg h1, if_neg (by simpa using h2), if_neg (by rw [hg.1]; decide), if_neg (by simpa using h3)]
      rw [hq]
      generalize hll : (getS (rowS t).1 bs).1 = l at hok h3 hl64 hg ⊢
      generalize (rowS t).1 = ws at HR h2 hg e1 hll
      have HU := Lib.hid hl64
      have HG : ∀ (w : World) (v1 v2 : Value), Ints .i64 w v1 ws → Ints .u8 w v2 bs → Hid (Calls Try.prog 53 #[v1, v2] w (fun e w' => ∃ v, e = .returned (.tuple #[v, .int .i64 0]) ∧ w'.ownsRow w.heap.size 76 1 v l.length (l.map (Value.int .u64)) ∧ Below w.heap.size w w')) := fun w v1 v2 i1 i2 => by
        have := ref_get v1 v2 ws bs w i1 i2
        unfold GotS at this
        rw [hg.1, hll] at this
        exact this
      have HAs := fun v w h => Lib.hid (ref_asked22 t v l w h hok)
      rw [h3] at HAs
      obtain ⟨av, capv, bv, offv, rfl, -⟩ := h.open
      clear h hq h1 h1' h2 hu hg hask hll hl64 hok h3
      go_enter Try.func18, Try.ntmps18
      go_wp2_with (first
        | (go_at_call 44; (with_reducible refine (HR _).out.mono ?_); rintro e w1 ⟨vw, rfl, hw, hb⟩; have HB1 := Lib.hid hb; have HH1 := Lib.hid ((hb.block w.heap.size (by simp)).trans (heap_alloc_new _ _)); have HW1 := Lib.hid hw; have HS1 := Lib.hid (ref_size _ _ _ hw); clear hw hb)
        | (go_at_call 52; (with_reducible refine HS1.out.mono ?_); rintro e w2 ⟨rfl, rfl⟩)
        | (go_at_call 53; (with_reducible refine (HG _ _ _ HW1.out (HX.out.below HB1.out)).out.mono ?_); rintro e w3 ⟨vl, rfl, ho, hb⟩; have hil := Ints.of_own ho HU.out.wf; have hob : ∀ b, vl.ownBlock = some b → b ≠ w.heap.size := (fun b e => by have := (ho.lt b e).1; have := HB1.out.size; simp at this; omega); have HB3 := Lib.hid (HB1.out.trans (hb.mono HB1.out.size)); have HH3 := Lib.hid ((HB3.out.block w.heap.size (by simp)).trans (heap_alloc_new _ _)); have HL3 := Lib.hid hil; obtain ⟨al, capl, rfl⟩ := own_slice ho; have HOb := Lib.hid hob; clear ho hil hb hob)
        | (go_at_call 47; (with_reducible refine (HAs _ _ HL3.out).out.mono ?_); rintro e w5 ⟨rfl, hb⟩; have HB5 := Lib.hid (HB3.out.trans (hb.mono HB3.out.size)); have HH5 := Lib.hid ((HB5.out.block w.heap.size (by simp)).trans (heap_alloc_new _ _)); have HL4 := Lib.hid (HL3.out.below hb); clear hb)
        | (refine wpList_store_rowTo rfl 35 _ _ rfl rfl w.heap.size (msgA t (.slice al l.length capl) nilV) rfl rfl _ _ HH5.out (by kernel_rfl) (by kernel_rfl) (by kernel_rfl) ?_; have hheap := setRow_heap w5 w.heap.size _ (msgA t (.slice al l.length capl) nilV) _ _ HH5.out; have HB9 := Lib.hid (below_setRow (below1 HB5.out) (Nat.le_refl _) (msgA t (.slice al l.length capl) nilV))))
      refine bodyPost_ret (results_row_tmp rfl _ _ w.heap.size _ _ _ _ rfl hheap Try.underlying35 rfl (by kernel_rfl)) rfl ?_
      exact ⟨_, rfl, ints_setRow HL4.out HOb.out _, HB9.out⟩
    · have hq : readS t bs = ((0, []), askedS t (getS (rowS t).1 bs).1) := by rw [readS, if_neg h1, if_neg (by simpa using h2), if_neg (by rw [hg.1]; decide), if_pos h3]
      rw [hq]
      generalize hll : (getS (rowS t).1 bs).1 = l at hok h3 hl64 hg ⊢
      generalize (rowS t).1 = ws at HR h2 hg e1 hll
      have HU := Lib.hid hl64
      have HG : ∀ (w : World) (v1 v2 : Value), Ints .i64 w v1 ws → Ints .u8 w v2 bs → Hid (Calls Try.prog 53 #[v1, v2] w (fun e w' => ∃ v, e = .returned (.tuple #[v, .int .i64 0]) ∧ w'.ownsRow w.heap.size 76 1 v l.length (l.map (Value.int .u64)) ∧ Below w.heap.size w w')) := fun w v1 v2 i1 i2 => by
        have := ref_get v1 v2 ws bs w i1 i2
        unfold GotS at this
        rw [hg.1, hll] at this
        exact this
      have HAs := fun v w h => Lib.hid (ref_asked22 t v l w h hok)
      have e3 : (askedS t l != 0) = true := by simpa using h3
      obtain ⟨av, capv, bv, offv, rfl, -⟩ := h.open
      clear h hq h1 h1' h2 hu hg hask hll hl64 hok h3
      go_enter Try.func18, Try.ntmps18
      go_wp2_with (first
        | (go_at_call 44; (with_reducible refine (HR _).out.mono ?_); rintro e w1 ⟨vw, rfl, hw, hb⟩; have HB1 := Lib.hid hb; have HH1 := Lib.hid ((hb.block w.heap.size (by simp)).trans (heap_alloc_new _ _)); have HW1 := Lib.hid hw; have HS1 := Lib.hid (ref_size _ _ _ hw); clear hw hb)
        | (go_at_call 52; (with_reducible refine HS1.out.mono ?_); rintro e w2 ⟨rfl, rfl⟩)
        | (go_at_call 53; (with_reducible refine (HG _ _ _ HW1.out (HX.out.below HB1.out)).out.mono ?_); rintro e w3 ⟨vl, rfl, ho, hb⟩; have hil := Ints.of_own ho HU.out.wf; have hob : ∀ b, vl.ownBlock = some b → b ≠ w.heap.size := (fun b e => by have := (ho.lt b e).1; have := HB1.out.size; simp at this; omega); have HB3 := Lib.hid (HB1.out.trans (hb.mono HB1.out.size)); have HH3 := Lib.hid ((HB3.out.block w.heap.size (by simp)).trans (heap_alloc_new _ _)); have HL3 := Lib.hid hil; obtain ⟨al, capl, rfl⟩ := own_slice ho; have HOb := Lib.hid hob; clear ho hil hb hob)
        | (go_at_call 47; (with_reducible refine (HAs _ _ HL3.out).out.mono ?_); rintro e w5 ⟨rfl, hb⟩; have HB5 := Lib.hid (HB3.out.trans (hb.mono HB3.out.size)); have HH5 := Lib.hid ((HB5.out.block w.heap.size (by simp)).trans (heap_alloc_new _ _)); clear hb)
        | (refine wpList_store_rowTo rfl 35 _ _ rfl rfl w.heap.size (msgA 0 nilV nilV) rfl rfl _ _ HH5.out (by kernel_rfl) (by kernel_rfl) (by kernel_rfl) ?_; have hheap := setRow_heap w5 w.heap.size _ (msgA 0 nilV nilV) _ _ HH5.out; have HB9 := Lib.hid (below_setRow (below1 HB5.out) (Nat.le_refl _) (msgA 0 nilV nilV))))
      refine bodyPost_ret (results_row_tmp rfl _ _ w.heap.size _ _ _ _ rfl hheap Try.underlying35 rfl (by kernel_rfl)) rfl ?_
      exact ⟨_, rfl, Ints.nil _ _, HB9.out⟩

end Go.Proofs.Ytfaklenclhljhaa
