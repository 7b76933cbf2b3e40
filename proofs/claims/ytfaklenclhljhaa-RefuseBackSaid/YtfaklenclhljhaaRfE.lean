/- The plain laws of chapter 26's messages: what is written is read; what is read, written again, is those bytes. Conditions: none beyond each lemma's own. -/
import Derived.Test.YtfaklenclhljhaaBodyD
namespace Go.Proofs.Ytfaklenclhljhaa
open Go.RowKit

theorem bodyR_cases (ty : Int) (nums ds : List Int) (b : Bool) : bodyR ty nums ds b = ([], 10001) ∨ (b = true ∧ ∃ bs, bodyR ty nums ds b = (bs ++ ds, 0) ∧ (rowR ty).2 = true ∧ putS (rowR ty).1 nums = some bs) := by
  by_cases h : (rowR ty).2 = true ∧ (putS (rowR ty).1 nums).isSome = true ∧ b = true
  · obtain ⟨bs, hp⟩ := Option.isSome_iff_exists.1 h.2.1
    exact .inr ⟨h.2.2, bs, by rw [bodyR, if_pos h, hp]; rfl, h.1, hp⟩
  · exact .inl (if_neg h)

theorem written_readR {ty : Int} {nums bs : List Int} (ds : List Int) (h1 : (rowR ty).2 = true) (h2 : putS (rowR ty).1 nums = some bs) (hu : U64 nums) : readR ty (bs ++ ds) = ((ty, nums, ds), 0) := by
  have hg := back_get ds h2 hu
  unfold readR
  rw [if_neg (by simp [h1]), hg, if_neg (by simp), ← back_size h2, List.drop_left]

theorem readR_cases (t : Int) (bs : List Int) (hu : U8 bs) : (∃ er, er ≠ 0 ∧ readR t bs = ((0, [], []), er)) ∨ (∃ l d, readR t bs = ((t, l, d), 0) ∧ bodyR t l d true = (bs, 0) ∧ d.length ≤ bs.length) := by
  unfold readR
  by_cases h1 : (rowR t).2 = false
  · exact .inl ⟨10001, by decide, if_pos h1⟩
  rw [if_neg h1]
  by_cases h3 : (getS (rowR t).1 bs).2 ≠ 0
  · exact .inl ⟨263, by decide, if_pos h3⟩
  rw [if_neg h3]
  have h3 := Classical.not_not.1 h3
  obtain ⟨n, hn, hp⟩ := back_put (l := (getS (rowR t).1 bs).1) (rowR_right t) hu (by rw [← h3])
  have hs := back_size hp
  rw [List.length_take] at hs
  have hns : n = sizeS (rowR t).1 := by omega
  rw [hns] at hp
  refine .inr ⟨_, _, rfl, ?_, by simp⟩
  rw [bodyR, if_pos ⟨by simpa using h1, by rw [hp]; rfl, rfl⟩, hp]
  rw [Option.getD_some, List.take_append_drop]
end Go.Proofs.Ytfaklenclhljhaa
