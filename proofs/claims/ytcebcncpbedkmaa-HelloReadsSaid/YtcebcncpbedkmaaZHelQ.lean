/- What is cut is no more things than bytes. Conditions: none. -/
import Derived.Test.YtcebcncpbedkmaaZHelP
namespace Go.Proofs.Ytcebcncpbedkmaa
theorem Sh.cutA_few {s : Sh} : ∀ (f : Nat) (acc : List (Int × List Int)) (bs : List Int), (s.cutA f acc bs).1.length ≤ acc.length + bs.length := by
  intro f
  induction f with
  | zero => intro acc bs; simp only [Sh.cutA]; omega
  | succ f ih =>
    intro acc bs
    simp only [Sh.cutA]
    split
    · simp
    · split
      · simp
      · rename_i h1 h2
        have h3 : (s.one bs).2.2 = 0 := by simpa using h2
        have := Sh.one_ok h3
        have h4 := ih (acc ++ [(s.one bs).1]) (bs.drop (s.one bs).2.1)
        rw [List.length_append, List.length_singleton, List.length_drop] at h4
        omega
theorem Sh.cut_few (s : Sh) (bs : List Int) : (s.cut bs).1.length ≤ bs.length := by
  unfold Sh.cut
  cases h : s.may with
  | true => have := Sh.cutA_few (s := s) bs.length [] bs; simpa [h] using this
  | false => simp
theorem all_few (s : Sh) : ∀ l : List Elt, l.length ≤ (s.all l).length ∧ ∀ x ∈ l, x.2.length ≤ (s.all l).length := by
  intro l
  induction l with
  | nil => exact ⟨Nat.zero_le _, fun x hx => by simp at hx⟩
  | cons y l ih =>
    have h1 : (s.all (y :: l)).length = (s.thing y).length + (s.all l).length := by simp [Sh.all]
    have h2 := s.thing_len y
    refine ⟨by rw [h1, h2, List.length_cons]; have := ih.1; omega, fun x hx => ?_⟩
    rw [h1, h2]
    rcases List.mem_cons.1 hx with rfl | hx
    · omega
    · have := ih.2 x hx; omega
theorem bodyH_few {l : List Elt} {bs : List Int} (h : bodyH 0 true l = (bs, 0)) : l.length ≤ bs.length ∧ ∀ x ∈ l, x.2.length ≤ bs.length := by
  rcases bodyH_cases 0 true l with ⟨k1, -, -, -, k5, -⟩ | ⟨k1, -⟩
  · rw [k1] at h
    have hj : shH.join l = (shH.all l, 0) ∨ (shH.join l).2 = 10001 := by
      unfold Sh.join
      split
      · exact .inl rfl
      · exact .inr rfl
    rcases hj with hj | hj
    · rw [hj] at h
      injection h with h
      rw [← h]
      exact all_few shH l
    · rw [hj] at k5; cases k5
  · rw [k1] at h; cases h
end Go.Proofs.Ytcebcncpbedkmaa
