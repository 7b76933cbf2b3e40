/- Things that tell their length, in plain Lean: what is joined is cut, what is cut is joined. Conditions: those of each lemma. -/
import Derived.Test.YtoobcgakainelaaTlvP
namespace Go.Proofs.Ytoobcgakainelaa

theorem Sh.thing_len (s : Sh) (x : Int × List Int) : (s.thing x).length = 4 + x.2.length + s.zeros (4 + x.2.length) := by
  simp [Sh.thing, be_length]; omega

theorem told_thing {s : Sh} {x : Int × List Int} (h : s.good x = true) (more : List Int) : told (s.thing x ++ more) = 4 + x.2.length := by
  simp only [Sh.good, Bool.and_eq_true, decide_eq_true_eq] at h
  unfold told Sh.thing
  rw [List.append_assoc, List.drop_left' (be_length _ _), List.append_assoc, List.take_left' (be_length _ _), valL_be]
  have : (256 : Int) ^ 2 = 65536 := by decide
  rw [this]
  omega

theorem Sh.one_thing {s : Sh} {x : Int × List Int} (hm : s.may = true) (h : s.good x = true) (more : List Int) : s.one (s.thing x ++ more) = (x, (s.thing x).length, 0) := by
  have hg := h
  simp only [Sh.good, Bool.and_eq_true, decide_eq_true_eq] at hg
  have hl := s.thing_len x
  unfold Sh.one
  rw [told_thing h, if_neg (by simp [hm]), if_neg (by rw [List.length_append]; omega), if_neg (by
    rintro (h1 | h1)
    · rw [hg.2] at h1; cases h1
    · rw [List.length_append] at h1; omega)]
  have e1 : ((s.thing x ++ more).drop (4 + x.2.length)).take (s.zeros (4 + x.2.length)) = List.replicate (s.zeros (4 + x.2.length)) 0 := by
    have : s.thing x ++ more = (be 2 x.1 ++ (be 2 (4 + x.2.length : Nat) ++ x.2)) ++ (List.replicate (s.zeros (4 + x.2.length)) 0 ++ more) := by simp [Sh.thing]
    rw [this, List.drop_left' (by simp [be_length]; omega), List.take_left' (by simp)]
  have e2 : ((s.thing x ++ more).take (4 + x.2.length)).drop 4 = x.2 := by
    have : s.thing x ++ more = (be 2 x.1 ++ (be 2 (4 + x.2.length : Nat) ++ x.2)) ++ (List.replicate (s.zeros (4 + x.2.length)) 0 ++ more) := by simp [Sh.thing]
    rw [this, List.take_left' (by simp [be_length]; omega), ← List.append_assoc, List.drop_left' (by simp [be_length])]
  have e3 : valL ((s.thing x ++ more).take 2) = x.1 := by
    unfold Sh.thing
    rw [List.append_assoc, List.take_left' (be_length _ _), valL_be]
    have : (256 : Int) ^ 2 = 65536 := by decide
    rw [this]
    omega
  rw [e1, if_neg (by simp), e2, e3, hl]

theorem take_two (bs : List Int) (hb : U8 bs) (h : 4 ≤ bs.length) : be 2 (valL (bs.take 2)) = bs.take 2 ∧ be 2 (told bs : Int) = (bs.drop 2).take 2 := by
  have h1 := be_valL0 (b := bs.take 2) (fun z hz => hb z (List.mem_of_mem_take hz))
  have h2 := be_valL0 (b := (bs.drop 2).take 2) (fun z hz => hb z (List.mem_of_mem_drop (List.mem_of_mem_take hz)))
  rw [show (bs.take 2).length = 2 by simp; omega] at h1
  rw [show ((bs.drop 2).take 2).length = 2 by simp; omega] at h2
  rw [← told_eq hb]
  exact ⟨h1, h2⟩

theorem Sh.thing_one {s : Sh} {bs : List Int} (hb : U8 bs) (h : (s.one bs).2.2 = 0) : s.good (s.one bs).1 = true ∧ s.thing (s.one bs).1 = bs.take (s.one bs).2.1 := by
  unfold Sh.one at h ⊢
  split
  · rename_i h1; rw [if_pos h1] at h; simp at h
  · rename_i h1
    rw [if_neg h1] at h
    have hm : s.may = true := by simpa using h1
    have hm' := Sh.may_iff.1 hm
    split
    · rename_i h2; rw [if_pos h2] at h; exact absurd h hm'.2.2.2.2.1
    · rename_i h2
      rw [if_neg h2] at h
      split
      · rename_i h3; rw [if_pos h3] at h; exact absurd h hm'.2.2.2.2.1
      · rename_i h3
        rw [if_neg h3] at h
        split
        · rename_i h4; rw [if_pos h4] at h; exact absurd h hm'.2.2.2.2.2
        · rename_i h4
          have hz : ((bs.drop (told bs)).take (s.zeros (told bs))).all (· == 0) = true := by simpa using h4
          have hf : s.fits (told bs) = true := by
            cases hf : s.fits (told bs) with
            | true => rfl
            | false => exact absurd (.inl hf) h3
          have hl : told bs + s.zeros (told bs) ≤ bs.length := by
            have : ¬ bs.length < told bs + s.zeros (told bs) := fun h => h3 (.inr h)
            omega
          have h4le : 4 ≤ told bs := by
            have := hf
            simp only [Sh.fits, Bool.and_eq_true, decide_eq_true_eq] at this
            omega
          have ht := told_lt hb
          have hlen : ((bs.take (told bs)).drop 4).length = told bs - 4 := by simp; omega
          have hn : 4 + ((bs.take (told bs)).drop 4).length = told bs := by omega
          obtain ⟨t1, t2⟩ := take_two bs hb (by omega)
          have hv := valL_bd (b := bs.take 2) (fun z hz => hb z (List.mem_of_mem_take hz))
          rw [show (bs.take 2).length = 2 by simp; omega] at hv
          have e256 : (256 : Int) ^ 2 = 65536 := by decide
          rw [e256] at hv
          refine ⟨?_, ?_⟩
          · simp only [Sh.good, Bool.and_eq_true, decide_eq_true_eq]
            rw [hn]
            exact ⟨⟨⟨hv.1, by omega⟩, by omega⟩, hf⟩
          · show be 2 (valL (bs.take 2)) ++ (be 2 ((4 + ((bs.take (told bs)).drop 4).length : Nat) : Int) ++ ((bs.take (told bs)).drop 4 ++ List.replicate (s.zeros (4 + ((bs.take (told bs)).drop 4).length)) 0)) = bs.take (told bs + s.zeros (told bs))
            rw [hn, t1, t2]
            have ez : List.replicate (s.zeros (told bs)) 0 = (bs.drop (told bs)).take (s.zeros (told bs)) := by
              symm
              rw [List.eq_replicate_iff]
              exact ⟨by simp; omega, fun z hz' => by simpa using List.all_eq_true.1 hz z hz'⟩
            have e1 : bs.take (told bs + s.zeros (told bs)) = bs.take (told bs) ++ (bs.drop (told bs)).take (s.zeros (told bs)) := List.take_add
            have e2 : bs.take (told bs) = (bs.take (told bs)).take 4 ++ (bs.take (told bs)).drop 4 := (List.take_append_drop 4 _).symm
            have e3 : (bs.take (told bs)).take 4 = bs.take 2 ++ (bs.drop 2).take 2 := by
              rw [List.take_take, Nat.min_eq_left h4le]
              exact (List.take_add (i := 2) (j := 2) (l := bs))
            rw [ez, e1, ← List.append_assoc, ← List.append_assoc, ← e3, ← e2]

theorem Sh.cut_all {s : Sh} (hm : s.may = true) : ∀ (l : List (Int × List Int)) (f : Nat) (acc : List (Int × List Int)), l.all s.good = true → (s.all l).length ≤ f → s.cutA f acc (s.all l) = (acc ++ l, 0) := by
  intro l
  induction l with
  | nil =>
    intro f acc _ _
    cases f with
    | zero => simp [Sh.cutA]
    | succ f => simp [Sh.cutA, Sh.all]
  | cons x l ih =>
    intro f acc hg hf
    simp only [List.all_cons, Bool.and_eq_true] at hg
    have e : s.all (x :: l) = s.thing x ++ s.all l := by simp [Sh.all]
    have hl := s.thing_len x
    rw [e, List.length_append] at hf
    rw [e]
    cases f with
    | zero => omega
    | succ f =>
      simp only [Sh.cutA]
      rw [Sh.one_thing hm hg.1, if_neg (by rw [List.length_append]; omega), if_neg (by simp), List.drop_left' rfl, ih f _ hg.2 (by omega)]
      simp
theorem Sh.cut_join {s : Sh} {l : List (Int × List Int)} (h : (s.join l).2 = 0) : s.cut (s.join l).1 = (l, 0) := by
  unfold Sh.join at h ⊢
  split at h
  · rename_i hc
    rw [if_pos hc]
    simp only [Bool.and_eq_true] at hc
    unfold Sh.cut
    rw [hc.1]
    simpa using Sh.cut_all hc.1 l _ [] hc.2 (Nat.le_refl _)
  · simp at h

theorem Sh.all_cut {s : Sh} : ∀ (f : Nat) (bs : List Int) (acc m : List (Int × List Int)), U8 bs → bs.length ≤ f → s.cutA f acc bs = (m, 0) → ∃ k, m = acc ++ k ∧ k.all s.good = true ∧ s.all k = bs := by
  intro f
  induction f with
  | zero =>
    intro bs acc m hb hf h
    obtain rfl : bs = [] := List.eq_nil_of_length_eq_zero (by omega)
    simp [Sh.cutA] at h
    exact ⟨[], by simp [h], rfl, rfl⟩
  | succ f ih =>
    intro bs acc m hb hf h
    simp only [Sh.cutA] at h
    split at h
    · rename_i h0
      obtain rfl : bs = [] := List.eq_nil_of_length_eq_zero h0
      simp at h
      exact ⟨[], by simp [h], rfl, rfl⟩
    · split at h
      · rename_i h1
        injection h with h2 h3
        exact absurd h3 h1
      · rename_i h0 h1
        have h1' : (s.one bs).2.2 = 0 := by simpa using h1
        have ho := Sh.one_ok h1'
        obtain ⟨g1, g2⟩ := Sh.thing_one hb h1'
        obtain ⟨k, hk, hkg, hka⟩ := ih _ _ _ (fun z hz => hb z (List.mem_of_mem_drop hz)) (by rw [List.length_drop]; omega) h
        refine ⟨(s.one bs).1 :: k, by simp [hk], by simp [g1, hkg], ?_⟩
        show (((s.one bs).1 :: k).map s.thing).flatten = bs
        rw [List.map_cons, List.flatten_cons, g2]
        show _ ++ s.all k = bs
        rw [hka, List.take_append_drop]
theorem Sh.join_cut {s : Sh} {bs : List Int} (hb : U8 bs) (h : (s.cut bs).2 = 0) : s.join (s.cut bs).1 = (bs, 0) := by
  unfold Sh.cut at h ⊢
  split
  · rename_i hm
    rw [if_pos hm] at h
    obtain ⟨k, hk, hg, ha⟩ := Sh.all_cut bs.length bs [] (s.cutA bs.length [] bs).1 hb (Nat.le_refl _) (by rw [← h])
    rw [hk, List.nil_append]
    unfold Sh.join
    rw [if_pos (by simp only [Bool.and_eq_true]; exact ⟨hm, hg⟩), ha]
  · rename_i hm; rw [if_neg hm] at h; simp at h
theorem Sh.cut_err {s : Sh} {bs : List Int} (h : (s.cut bs).2 ≠ 0) : (s.cut bs).1 = [] := by
  have key : ∀ (f : Nat) (bs : List Int) (acc : List (Int × List Int)), (s.cutA f acc bs).2 ≠ 0 → (s.cutA f acc bs).1 = [] := by
    intro f
    induction f with
    | zero => intro bs acc h; simp [Sh.cutA] at h
    | succ f ih =>
      intro bs acc h
      simp only [Sh.cutA] at h ⊢
      split
      · rename_i h0; rw [if_pos h0] at h; simp at h
      · rename_i h0
        rw [if_neg h0] at h
        split
        · rfl
        · rename_i h1
          rw [if_neg h1] at h
          exact ih _ _ h
  unfold Sh.cut at h ⊢
  split
  · rename_i hm; rw [if_pos hm] at h; exact key _ _ _ h
  · rfl

end Go.Proofs.Ytoobcgakainelaa
