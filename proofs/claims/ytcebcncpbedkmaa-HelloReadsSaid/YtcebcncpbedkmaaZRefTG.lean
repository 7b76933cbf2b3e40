/- The walk of the document's Cut. Conditions: the argument reads as bytes, at most 10^9. -/
import Derived.Test.YtcebcncpbedkmaaZRefTH
namespace Go.Proofs.Ytcebcncpbedkmaa
open Go.RowKit
set_option maxRecDepth 100000
set_option maxHeartbeats 4000000

/-- The things collected: v owns their cells, each owns its bytes. -/
def OutR (L : Nat) (W : World) (v : Value) (pre : List (Int × List Int)) : Prop :=
  ∃ xs : List Value, W.ownsRow L 85 2 v pre.length xs ∧ ∀ i t zs, pre[i]? = some (t, zs) → ∃ bv, xs[i * 2]? = some (.int .i64 t) ∧ xs[i * 2 + 1]? = some bv ∧ W.ownsRow L 5 1 bv zs.length (zs.map (Value.int .u8)) ∧ U8 zs ∧ (0 ≤ t ∧ t < 65536)

theorem OutR.nil (L : Nat) (W : World) : OutR L W (.slice none 0 0) [] := ⟨[], World.ownsRow_nil _ _ _ _, fun i t zs h => by simp at h⟩
theorem OutR.agree {L : Nat} {W W' : World} {v : Value} {pre : List (Int × List Int)} (h : OutR L W v pre) (ha : Agree L W W') : OutR L W' v pre := by
  obtain ⟨xs, ho, hx⟩ := h
  refine ⟨xs, own_agree ho ha, fun i t zs hi => ?_⟩
  obtain ⟨bv, h1, h2, h3, h4⟩ := hx i t zs hi
  exact ⟨bv, h1, h2, own_agree h3 ha, h4⟩

/-- One thing more. -/
theorem OutR.snoc {L : Nat} {W W' : World} {v v' bv : Value} {pre : List (Int × List Int)} {t : Int} {zs : List Int} (hb : W.ownsRow L 5 1 bv zs.length (zs.map (Value.int .u8))) (hu : U8 zs) (ht : 0 ≤ t ∧ t < 65536)
    (hg : W.grownBy W' v.ownBlock) {xs : List Value} (ho : W.ownsRow L 85 2 v pre.length xs) (hx : ∀ i t zs, pre[i]? = some (t, zs) → ∃ bv, xs[i * 2]? = some (.int .i64 t) ∧ xs[i * 2 + 1]? = some bv ∧ W.ownsRow L 5 1 bv zs.length (zs.map (Value.int .u8)) ∧ U8 zs ∧ (0 ≤ t ∧ t < 65536))
    (hn : W'.ownsRow L 85 2 v' (pre.length + 1) (xs ++ [.int .i64 t, bv])) : OutR L W' v' (pre ++ [(t, zs)]) := by
  have hlen : xs.length = pre.length * 2 := ho.1
  have keep : ∀ {bv : Value} {zs : List Int}, W.ownsRow L 5 1 bv zs.length (zs.map (Value.int .u8)) → W'.ownsRow L 5 1 bv zs.length (zs.map (Value.int .u8)) := fun {bv zs} hb => by
    refine hb.kept hg ?_
    cases hv : bv.ownBlock with
    | none => exact .inl rfl
    | some g => exact .inr fun e => own_apart hb ho (by decide) hv e.symm
  refine ⟨xs ++ [.int .i64 t, bv], by simpa using hn, fun i t' zs' hi => ?_⟩
  by_cases hlt : i < pre.length
  · rw [List.getElem?_append_left hlt] at hi
    obtain ⟨bv', h1, h2, h3, h4⟩ := hx i t' zs' hi
    refine ⟨bv', ?_, ?_, keep h3, h4⟩
    · rw [List.getElem?_append_left (by omega)]; exact h1
    · rw [List.getElem?_append_left (by omega)]; exact h2
  · rw [List.getElem?_append_right (by omega)] at hi
    have h0 : i - pre.length = 0 := by
      rcases Nat.eq_zero_or_pos (i - pre.length) with h0 | h0
      · exact h0
      · rw [List.getElem?_eq_none (by simp; omega)] at hi; cases hi
    rw [h0] at hi
    have e : t = t' ∧ zs = zs' := by simpa using hi
    obtain ⟨rfl, rfl⟩ := e
    obtain rfl : i = pre.length := by omega
    refine ⟨bv, ?_, ?_, keep hb, hu, ht⟩
    · rw [List.getElem?_append_right (by omega), show pre.length * 2 - xs.length = 0 by omega]; rfl
    · rw [List.getElem?_append_right (by omega), show pre.length * 2 + 1 - xs.length = 1 by omega]; rfl

theorem OutR.rows {L : Nat} {W : World} {v : Value} {pre : List (Int × List Int)} (h : OutR L W v pre) : RowsOf ItemR 2 W v pre := by
  obtain ⟨xs, ho, hx⟩ := h
  obtain ⟨a, cap, b, off, h1, h2, h3, h4, h5, h6⟩ := Sl.of_own ho
  refine ⟨a, cap, b, off, h1, h2, h3, h4, h5, fun i x hi => ?_⟩
  obtain ⟨bv, q1, q2, q3, q4, q5⟩ := hx i x.1 x.2 hi
  refine ⟨[.int .i64 x.1, bv], rfl, ⟨bv, rfl, Ints.of_own q3 q4.wf, wf_i64 (by omega) (by omega)⟩, fun j u hu => ?_⟩
  have at_ : ∀ j' u', xs[j']? = some u' → W.cell? ⟨b, off + j', none⟩ = some u' := fun j' u' hj => by
    have := h6 j' (List.getElem?_eq_some_iff.1 hj).1
    rw [this, List.getD_eq_getElem?_getD, hj]
    rfl
  match j, hu with
  | 0, hu => simp at hu; subst hu; exact at_ _ _ q1
  | 1, hu => simp at hu; subst hu; exact at_ _ _ q2
theorem OutR.slice {L : Nat} {W : World} {v : Value} {pre : List (Int × List Int)} (h : OutR L W v pre) : ∃ a cap, v = .slice a pre.length cap := by
  obtain ⟨xs, ho, -⟩ := h; exact own_slice ho
theorem OutR.low {L L' : Nat} {W : World} {v : Value} {pre : List (Int × List Int)} (h : OutR L W v pre) (hL : L' ≤ L) : OutR L' W v pre := by
  obtain ⟨xs, ho, hx⟩ := h
  refine ⟨xs, own_base ho hL, fun i t zs hi => ?_⟩
  obtain ⟨bv, h1, h2, h3, h4⟩ := hx i t zs hi
  exact ⟨bv, h1, h2, own_base h3 hL, h4⟩


/-- What the document's Cut hands back. -/
def GotCutR (s : Sh) (bs : List Int) (w : World) (e : Ending) (w' : World) : Prop :=
  ∃ v, e = .returned (.tuple #[v, .int .i64 (s.cut bs).2]) ∧ OutR w.heap.size w' v (s.cut bs).1 ∧ Below w.heap.size w w'

def lenV : Value → Nat | .slice _ n _ => n | _ => 0

theorem rcut_may {s : Sh} {v : Value} {bs : List Int} {w : World} (hm : s.may = false) : Calls Try.prog 36 #[s.val, v] w (GotCutR s bs w) := by
  have HM := ref_may s
  rw [hm] at HM
  have HM := Lib.hid HM
  have HO : Hid (s.cut bs = ([], 10001)) := by show _ = _; unfold Sh.cut; rw [hm]; rfl
  clear hm
  simp only [Sh.val]
  go_enter Try.func36, Try.ntmps36
  go_wp2_with (go_at_call 71; (with_reducible refine (HM.out _).mono ?_); rintro e w1 ⟨rfl, hb⟩; have H1 := Lib.hid ((ShR.start w s).cell _ hb); clear hb)
  go_ret2
  unfold GotCutR
  rw [HO.out]
  exact ⟨_, rfl, OutR.nil _ _, H1.out.below⟩

theorem ref_cut {s : Sh} {v : Value} {bs : List Int} {w : World} (h : Ints .u8 w v bs) (hl : bs.length ≤ 1000000000) : Calls Try.prog 36 #[s.val, v] w (GotCutR s bs w) := by
  cases hm : s.may with
  | false => exact rcut_may hm
  | true =>
  have HM := ref_may s
  rw [hm] at HM
  have HM := Lib.hid HM
  have HI := Lib.hid h
  have HU := Lib.hid h.u8
  have HC := Lib.hid (Cutting.start (bs := bs) hm)
  obtain ⟨a, cap, b, off, rfl, -⟩ := h.open
  clear h hm
  simp only [Sh.val]
  go_enter Try.func36, Try.ntmps36
  go_wp2_with (go_at_call 71; (with_reducible refine (HM.out _).mono ?_); rintro e w1 ⟨rfl, hb⟩; have H1 := Lib.hid ((ShR.start w s).cell _ hb); clear hb)
  go_loopw [1, 6] (fun bv ov wr => ∃ (pre : List (Int × List Int)) (rest : List Int), Hid (Ints .u8 wr bv rest) ∧ Hid (0 < rest.length → ∀ b', bv.ownBlock = some b' → b' < w.heap.size) ∧ Hid (OutR (w.heap.size + 1) wr ov pre) ∧ Hid (Cutting s bs pre rest) ∧ Hid (ShR w s wr) ∧ pre.length + rest.length ≤ bs.length ∧ Hid (U8 rest)) (fun bv _ _ => lenV bv)
  case atStart => exact ⟨[], bs, HI.out.below H1.out.below, own_low HI.out, OutR.nil _ _, HC.out, H1.out, by simp, HU.out⟩
  case round =>
    obtain ⟨pre, rest, HR, HLow, HO, HCt, HS, hpl, HUr⟩ := hrel
    obtain ⟨ar, capr, br, offr, rfl, -⟩ := HR.out.open
    obtain ⟨ao, capo, rfl⟩ := HO.out.slice
    obtain ⟨c0, c1, c2, c3, c4⟩ := HS.out.cells
    by_cases h00 : rest.length = 0
    · have HD := Lib.hid (HCt.out.done h00)
      have hz : rest = [] := List.eq_nil_of_length_eq_zero h00
      subst hz
      clear hpl h00
      go_wp2_with fail
      go_ret2
      unfold GotCutR
      rw [HD.out]
      exact ⟨_, rfl, HO.out.low (by omega), HS.out.below⟩
    · have hpos : 0 < rest.length := by omega
      have hone := ref_one (s := s) HR.out (by omega)
      have hu8 := one_u8 (s := s) HUr.out
      have hok := fun h => Sh.one_ok (s := s) (bs := rest) h
      have hnx := fun h => HCt.out.next hpos h
      have hfl := fun h => HCt.out.fails hpos h
      unfold GotOne at hone
      obtain ⟨⟨⟨t, zs⟩, m, er⟩, ho⟩ : ∃ o, s.one rest = o := ⟨_, rfl⟩
      rw [ho] at hone hu8 hok hnx hfl
      simp only [Sh.val] at hone hu8 hok hnx hfl
      have HOn := Lib.hid hone
      obtain ⟨hz8, ht0, ht1⟩ := hu8
      have HZ8 := Lib.hid hz8
      by_cases he : er = 0
      · subst he
        obtain ⟨-, hm4, hml⟩ := hok rfl
        have HN := Lib.hid (hnx rfl)
        obtain ⟨A, hsl, hcut, hAb⟩ := slice_from' Try.underlying24 info_u8 HR.out (m : Int) m rfl hml
        have HCut := Lib.hid hcut
        obtain ⟨xs, hox, hxx⟩ := HO.out
        have HOx := Lib.hid hox
        have HXx := Lib.hid hxx
        clear hone hok hnx hfl ho hcut hz8 hox hxx
        go_wp2_with (first
          | (go_at_call 75; (with_reducible refine HOn.out.mono ?_); rintro e w2 ⟨bv, rfl, ho1, hu1, hb1⟩; obtain ⟨ab, capb, rfl⟩ := own_slice ho1; have H2 := Lib.hid (HS.out.cell _ hb1); have HB2 := Lib.hid hb1; have Hb2 := Lib.hid (own_base ho1 HS.out.size); have HO3 := Lib.hid (own_below (own_below (own_below HOx.out hb1) (below_alloc2 (.cells #[.int .i64 t, .slice ab zs.length capb] 85))) (below_alloc2 (.cells #[.int .i64 t, .slice ab zs.length capb] 85))); have HZ3 : Hid (w.heap.size + 1 ≤ ((w2.alloc (.cells #[.int .i64 t, .slice ab zs.length capb] 85)).alloc (.cells #[.int .i64 t, .slice ab zs.length capb] 85)).heap.size) := (by have := H2.out.size; show _ ≤ _; simp; omega); have hs3 := Sl.new (w2.alloc (.cells #[.int .i64 t, .slice ab zs.length capb] 85)) [.int .i64 t, .slice ab zs.length capb] 85 1 (by unfold maxLen; omega); rw [World.size_alloc] at hs3; have HS3 : Hid (Sl ((w2.alloc (.cells #[.int .i64 t, .slice ab zs.length capb] 85)).alloc (.cells #[.int .i64 t, .slice ab zs.length capb] 85)) (.slice (some ⟨w2.heap.size + 1, 0, none⟩) 1 1) 1 [.int .i64 t, .slice ab zs.length capb]) := hs3; clear ho1 hu1 hb1 hs3)
          | (at_builtin; refine wpList_append_sl rfl _ _ _ rfl (w.heap.size + 1) 85 (.agg #[.int .i64 0, .slice none 0 0]) 2 32 Try.underlying84 info_ref rfl (by decide) (.slice ao pre.length capo) pre.length xs rfl HO3.out (.slice (some ⟨w2.heap.size + 1, 0, none⟩) 1 1) 1 [.int .i64 t, .slice ab zs.length capb] rfl (by simp) HS3.out (by simp [Value.oneCell']) (by unfold maxLen; omega) (by omega) HZ3.out ?_; intro v4 w4 hown hgrow _; have HO4 := Lib.hid hown; have HG4 := Lib.hid hgrow; obtain ⟨a4, cap4, rfl⟩ := own_slice hown; clear hown hgrow))
        go_roundw
        case rel =>
          have hsz := H2.out.size
          have hb23 : Below w2.heap.size w2 ((w2.alloc (.cells #[.int .i64 t, .slice ab zs.length capb] 85)).alloc (.cells #[.int .i64 t, .slice ab zs.length capb] 85)) := ((Below.refl _ w2).alloc (Nat.le_refl _) _).alloc (by simp) _
          have h3 := H2.out.cell _ hb23
          have h4 := h3.own HO3.out HG4.out
          have hR4 : Below (w.heap.size + 1) wr w4 := ((HB2.out.mono HS.out.size).trans (hb23.mono hsz)).grown HG4.out (by simp; omega) (fun k e => (HOx.out.lt k e).1)
          have keep : Below wr.heap.size wr ((w2.alloc (.cells #[.int .i64 t, .slice ab zs.length capb] 85)).alloc (.cells #[.int .i64 t, .slice ab zs.length capb] 85)) := HB2.out.trans (hb23.mono HB2.out.size)
          refine ⟨pre ++ [(t, zs)], rest.drop m, ?_, fun _ b' hb' => HLow.out hpos b' (hAb b' hb'), ?_, HN.out, h4, by rw [List.length_drop, List.length_append, List.length_singleton]; omega, fun z hz => HUr.out z (List.mem_of_mem_drop hz)⟩
          · exact ints_low HCut.out (fun _ b' hb' => Nat.lt_succ_of_lt (HLow.out hpos b' (hAb b' hb'))) hR4
          · exact OutR.snoc (own_below Hb2.out hb23) HZ8.out ⟨ht0, ht1⟩ HG4.out HO3.out (fun i t' zs' hi => by
              obtain ⟨bv', q1, q2, q3, q4⟩ := HXx.out i t' zs' hi
              exact ⟨bv', q1, q2, own_below q3 keep, q4⟩) HO4.out
        case measure => simp [lenV]; omega
      · have HF := Lib.hid (hfl he)
        have hne : (er != 0) = true := by simpa using he
        clear hone hok hnx hfl ho hz8 he
        go_wp2_with (go_at_call 75; (with_reducible refine HOn.out.mono ?_); rintro e w2 ⟨bv, rfl, ho1, hu1, hb1⟩; obtain ⟨ab, capb, rfl⟩ := own_slice ho1; have H2 := Lib.hid (HS.out.cell _ hb1); clear ho1 hu1 hb1)
        go_ret2
        unfold GotCutR
        rw [HF.out]
        exact ⟨_, rfl, OutR.nil _ _, (H2.out.cell _ (below_alloc2 _)).below⟩

end Go.Proofs.Ytcebcncpbedkmaa
