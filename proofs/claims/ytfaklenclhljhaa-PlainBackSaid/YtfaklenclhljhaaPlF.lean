/- The plain laws of chapter 22's messages: what is written is read; what is read, written again, is those bytes. Conditions: none beyond each lemma's own. -/
import Derived.Test.YtfaklenclhljhaaBodyB
namespace Go.Proofs.Ytfaklenclhljhaa
open Go.RowKit

theorem bodyS_cases (ty : Int) (nums : List Int) (b : Bool) : bodyS ty nums b = ([], 10001) ∨ (b = true ∧ ∃ bs, bodyS ty nums b = (bs, 0) ∧ (rowS ty).2 = true ∧ putS (rowS ty).1 nums = some bs ∧ askedS ty nums = 0) := by
  by_cases h : (rowS ty).2 = true ∧ (putS (rowS ty).1 nums).isSome = true ∧ b = true ∧ askedS ty nums = 0
  · obtain ⟨bs, hp⟩ := Option.isSome_iff_exists.1 h.2.1
    exact .inr ⟨h.2.2.1, bs, by rw [bodyS, if_pos h, hp]; rfl, h.1, hp, h.2.2.2⟩
  · exact .inl (if_neg h)

theorem written_read {ty : Int} {nums bs : List Int} (h1 : (rowS ty).2 = true) (h2 : putS (rowS ty).1 nums = some bs) (h3 : askedS ty nums = 0) (hu : U64 nums) : readS ty bs = ((ty, nums), 0) := by
  have hg := back_get [] h2 hu
  rw [List.append_nil] at hg
  unfold readS
  rw [if_neg (by simp [h1]), if_neg (by simp [back_size h2]), hg]
  rw [if_neg (by simp), if_neg (by simp [h3])]

theorem readS_cases (t : Int) (bs : List Int) (hu : U8 bs) : (∃ er, er ≠ 0 ∧ readS t bs = ((0, []), er)) ∨ (∃ l, readS t bs = ((t, l), 0) ∧ bodyS t l true = (bs, 0)) := by
  unfold readS
  by_cases h1 : (rowS t).2 = false
  · exact .inl ⟨10001, by decide, if_pos h1⟩
  rw [if_neg h1]
  by_cases h2 : bs.length ≠ sizeS (rowS t).1
  · exact .inl ⟨263, by decide, if_pos h2⟩
  rw [if_neg h2]
  have h2 := Classical.not_not.1 h2
  by_cases h3 : (getS (rowS t).1 bs).2 ≠ 0
  · exact .inl ⟨269, by decide, if_pos h3⟩
  rw [if_neg h3]
  have h3 := Classical.not_not.1 h3
  by_cases h4 : askedS t (getS (rowS t).1 bs).1 ≠ 0
  · exact .inl ⟨_, h4, if_pos h4⟩
  rw [if_neg h4]
  have h4 := Classical.not_not.1 h4
  obtain ⟨n, hn, hp⟩ := back_put (l := (getS (rowS t).1 bs).1) (rowS_right t) hu (by rw [← h3])
  have hs := back_size hp
  rw [List.length_take] at hs
  rw [List.take_of_length_le (by omega)] at hp
  exact .inr ⟨_, rfl, by rw [bodyS, if_pos ⟨by simpa using h1, by rw [hp]; rfl, rfl, h4⟩, hp]; rfl⟩
end Go.Proofs.Ytfaklenclhljhaa
