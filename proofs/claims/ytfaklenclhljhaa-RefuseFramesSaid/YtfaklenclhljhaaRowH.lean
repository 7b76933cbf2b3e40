/- What was put is got again; what is got, put again, is those bytes: the plain laws of rows. Conditions: none beyond each lemma's own. -/
import Derived.Test.YtfaklenclhljhaaRowG
namespace Go.Proofs.Ytfaklenclhljhaa
open Go.RowKit

theorem putS_some {ws xs bs : List Int} (h : putS ws xs = some bs) : RightS ws = true ∧ cntL ws = xs.length ∧ putL ws xs = some bs := by
  unfold putS at h
  split at h
  · rename_i h1
    simp only [Bool.and_eq_true, decide_eq_true_eq] at h1
    exact ⟨h1.1, h1.2, h⟩
  · simp at h
theorem back_get {ws xs bs : List Int} (more : List Int) (h : putS ws xs = some bs) (hx : U64 xs) : getS ws (bs ++ more) = (xs, 0) := by
  obtain ⟨h1, h2, h3⟩ := putS_some h
  exact getS_ok h1 (get_put more (right_all h1) hx h2 h3)
theorem back_size {ws xs bs : List Int} (h : putS ws xs = some bs) : bs.length = sizeS ws := by
  obtain ⟨h1, h2, h3⟩ := putS_some h
  rw [putL_len h3]; simp [sizeS, h1]
theorem back_less {ws xs bs : List Int} (h : putS ws xs = some bs) (h0 : 0 < bs.length) : getS ws (bs.take (bs.length - 1)) = ([], 1) := by
  obtain ⟨h1, h2, h3⟩ := putS_some h
  exact getS_err h1 (get_less (right_all h1) h3 _ (by omega))
theorem back_put {ws bs l : List Int} (hr : RightS ws = true) (hb : U8 bs) (h : getS ws bs = (l, 0)) : ∃ n, n ≤ bs.length ∧ putS ws l = some (bs.take n) := by
  cases hg : getL ws bs with
  | error e =>
    exfalso
    rw [getS_err hr hg] at h
    have he : e = 0 := by injection h
    subst he
    have : ∀ (w b : List Int), getL w b ≠ .error 0 := by
      intro w
      induction w with
      | nil => intro b hb; simp [getL] at hb
      | cons n w ih =>
        intro b hb
        simp only [getL] at hb
        split at hb
        · simp at hb
        · split at hb
          · cases hh : getL w (b.drop n.natAbs) with
            | ok l => rw [hh] at hb; simp [Except.map] at hb
            | error e => rw [hh] at hb; simp [Except.map] at hb; subst hb; exact ih _ hh
          · split at hb
            · exact ih _ hb
            · simp at hb
    exact this _ _ hg
  | ok l' =>
    rw [getS_ok hr hg] at h
    injection h with h1 _
    subst h1
    obtain ⟨a1, a2, a3, a4⟩ := put_get (right_all hr) hb hg
    exact ⟨_, a1, by simp [putS, hr, a2, a3]⟩
theorem getS_nil {ws bs : List Int} (h : (getS ws bs).2 ≠ 0) : (getS ws bs).1 = [] := by
  unfold getS at h ⊢
  split
  · rename_i hr
    rw [if_pos hr] at h
    cases hg : getL ws bs with
    | ok l => rw [hg] at h; simp at h
    | error e => rfl
  · rfl
end Go.Proofs.Ytfaklenclhljhaa
