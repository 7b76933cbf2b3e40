/- Hellos in plain Lean: what is behind a head, and the elements that bytes are. Conditions: none. What is cut is no more things than bytes. Conditions: none. -/
import Derived.Test.YtcebcncpbedkmaaGreatZPlain01
namespace Go.Proofs.YtcebcncpbedkmaaGreat

/-- An element: its type, its data. -/
abbrev Elt := Int × List Int
def shH : Sh := ⟨4, 8, true, 263, 269⟩
theorem shH_may : shH.may = true := rfl
/-- Is an element wrong? -/
def wrongE (x : Elt) : Bool := (decide (x.1 = 1) && decide (x.2.length % 4 ≠ 0)) || decide (65000 < x.2.length)
/-- What is behind a hello's head. -/
def bodyH (ty : Int) (bare : Bool) (els : List Elt) : List Int × Int :=
  if ty = 0 ∧ bare = true ∧ els.any wrongE = false ∧ (shH.join els).2 = 0 ∧ (shH.join els).1.length ≤ 65527 then ((shH.join els).1, 0) else ([], 10001)
/-- The elements that bytes are. -/
def readH (t : Int) (bs : List Int) : List Elt × Int :=
  if t ≠ 0 then ([], 10001) else if (shH.cut bs).2 ≠ 0 then ([], (shH.cut bs).2) else if (shH.cut bs).1.any wrongE = true ∨ 65527 < bs.length then ([], 263) else ((shH.cut bs).1, 0)
theorem bodyH_cases (ty : Int) (bare : Bool) (els : List Elt) : (bodyH ty bare els = ((shH.join els).1, 0) ∧ ty = 0 ∧ bare = true ∧ els.any wrongE = false ∧ (shH.join els).2 = 0 ∧ (shH.join els).1.length ≤ 65527) ∨ (bodyH ty bare els = ([], 10001) ∧ (ty ≠ 0 ∨ bare = false ∨ els.any wrongE = true ∨ (shH.join els).2 ≠ 0 ∨ 65527 < (shH.join els).1.length)) := by
  unfold bodyH
  split
  · rename_i h; exact .inl ⟨rfl, h⟩
  · rename_i h
    refine .inr ⟨rfl, ?_⟩
    by_cases h1 : ty = 0
    · right
      cases h2 : bare with
      | false => exact .inl rfl
      | true =>
        right
        cases h3 : els.any wrongE with
        | true => exact .inl rfl
        | false =>
          right
          by_cases h4 : (shH.join els).2 = 0
          · right
            by_cases h5 : (shH.join els).1.length ≤ 65527
            · exact absurd ⟨h1, h2, h3, h4, h5⟩ h
            · omega
          · exact .inl h4
    · exact .inl h1
theorem readH_cases (t : Int) (bs : List Int) : (t ≠ 0 ∧ readH t bs = ([], 10001)) ∨ (t = 0 ∧ (shH.cut bs).2 ≠ 0 ∧ readH t bs = ([], (shH.cut bs).2)) ∨ (t = 0 ∧ (shH.cut bs).2 = 0 ∧ ((shH.cut bs).1.any wrongE = true ∨ 65527 < bs.length) ∧ readH t bs = ([], 263)) ∨ (t = 0 ∧ (shH.cut bs).2 = 0 ∧ (shH.cut bs).1.any wrongE = false ∧ bs.length ≤ 65527 ∧ readH t bs = ((shH.cut bs).1, 0)) := by
  unfold readH
  by_cases h1 : t ≠ 0
  · exact .inl ⟨h1, by rw [if_pos h1]⟩
  · rw [if_neg h1]
    have h1 : t = 0 := by simpa using h1
    by_cases h2 : (shH.cut bs).2 ≠ 0
    · exact .inr (.inl ⟨h1, h2, by rw [if_pos h2]⟩)
    · rw [if_neg h2]
      have h2 : (shH.cut bs).2 = 0 := by simpa using h2
      by_cases h3 : (shH.cut bs).1.any wrongE = true ∨ 65527 < bs.length
      · exact .inr (.inr (.inl ⟨h1, h2, h3, by rw [if_pos h3]⟩))
      · refine .inr (.inr (.inr ⟨h1, h2, ?_, by omega, by rw [if_neg h3]⟩))
        cases hw : (shH.cut bs).1.any wrongE with
        | false => rfl
        | true => exact absurd (.inl hw) h3
/-- What is written is read. -/
theorem readH_body {ty : Int} {bare : Bool} {els : List Elt} (h : (bodyH ty bare els).2 = 0) : readH ty (bodyH ty bare els).1 = (els, 0) ∧ ty = 0 ∧ bare = true := by
  rcases bodyH_cases ty bare els with ⟨he, rfl, h2, h3, h4, h5⟩ | ⟨he, -⟩
  · rw [he]
    have hc := Sh.cut_join (s := shH) h4
    refine ⟨?_, rfl, h2⟩
    unfold readH
    simp only
    rw [if_neg (by decide), hc, if_neg (by simp), if_neg (by simp only; rw [h3]; simp; omega)]
  · rw [he] at h; cases h
/-- What is read, written again, is those bytes. -/
theorem bodyH_read {t : Int} {bs : List Int} (hu : U8 bs) (h : (readH t bs).2 = 0) : bodyH 0 true (readH t bs).1 = (bs, 0) ∧ t = 0 := by
  rcases readH_cases t bs with ⟨-, he⟩ | ⟨-, hc, he⟩ | ⟨-, -, -, he⟩ | ⟨h1, h2, h3, h4, he⟩
  · rw [he] at h; cases h
  · rw [he] at h; exact absurd h hc
  · rw [he] at h; cases h
  · rw [he]
    have hj := Sh.join_cut hu h2
    refine ⟨?_, h1⟩
    unfold bodyH
    simp only
    rw [hj]
    simp only
    rw [if_pos ⟨trivial, trivial, h3, trivial, h4⟩]
theorem readH_err {t : Int} {bs : List Int} (h : (readH t bs).2 ≠ 0) : (readH t bs).1 = [] := by
  rcases readH_cases t bs with ⟨-, he⟩ | ⟨-, hc, he⟩ | ⟨-, -, -, he⟩ | ⟨h1, h2, h3, h4, he⟩
  · rw [he]
  · rw [he]
  · rw [he]
  · rw [he] at h; exact absurd rfl h
end Go.Proofs.YtcebcncpbedkmaaGreat
namespace Go.Proofs.YtcebcncpbedkmaaGreat
theorem Sh.cutA_few {s : Sh} : ∀ (f : Nat) (acc : List (Int × List Int)) (bs : List Int), (s.cutA f acc bs).1.length ≤ acc.length + bs.length := by
  intro f
  induction f with
  | zero => intro acc bs; simp only [Sh.cutA]; omega
  | succ f ih =>
    intro acc bs
    simp only [Sh.cutA]
    split
    · simp
    · split
      · simp
      · rename_i h1 h2
        have h3 : (s.one bs).2.2 = 0 := by simpa using h2
        have := Sh.one_ok h3
        have h4 := ih (acc ++ [(s.one bs).1]) (bs.drop (s.one bs).2.1)
        rw [List.length_append, List.length_singleton, List.length_drop] at h4
        omega
theorem Sh.cut_few (s : Sh) (bs : List Int) : (s.cut bs).1.length ≤ bs.length := by
  unfold Sh.cut
  cases h : s.may with
  | true => have := Sh.cutA_few (s := s) bs.length [] bs; simpa [h] using this
  | false => simp
theorem all_few (s : Sh) : ∀ l : List Elt, l.length ≤ (s.all l).length ∧ ∀ x ∈ l, x.2.length ≤ (s.all l).length := by
  intro l
  induction l with
  | nil => exact ⟨Nat.zero_le _, fun x hx => by simp at hx⟩
  | cons y l ih =>
    have h1 : (s.all (y :: l)).length = (s.thing y).length + (s.all l).length := by simp [Sh.all]
    have h2 := s.thing_len y
    refine ⟨by rw [h1, h2, List.length_cons]; have := ih.1; omega, fun x hx => ?_⟩
    rw [h1, h2]
    rcases List.mem_cons.1 hx with rfl | hx
    · omega
    · have := ih.2 x hx; omega
theorem bodyH_few {l : List Elt} {bs : List Int} (h : bodyH 0 true l = (bs, 0)) : l.length ≤ bs.length ∧ ∀ x ∈ l, x.2.length ≤ bs.length := by
  rcases bodyH_cases 0 true l with ⟨k1, -, -, -, k5, -⟩ | ⟨k1, -⟩
  · rw [k1] at h
    have hj : shH.join l = (shH.all l, 0) ∨ (shH.join l).2 = 10001 := by
      unfold Sh.join
      split
      · exact .inl rfl
      · exact .inr rfl
    rcases hj with hj | hj
    · rw [hj] at h
      injection h with h
      rw [← h]
      exact all_few shH l
    · rw [hj] at k5; cases k5
  · rw [k1] at h; cases h
end Go.Proofs.YtcebcncpbedkmaaGreat
