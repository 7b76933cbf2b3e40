/- Hellos in plain Lean: what is behind a head, and the elements that bytes are. Conditions: none. -/
import Derived.Test.YtcebcncpbedkmaaZPlain01
namespace Go.Proofs.Ytcebcncpbedkmaa

/-- An element: its type, its data. -/
abbrev Elt := Int × List Int
def shH : Sh := ⟨4, 8, true, 263, 269⟩
theorem shH_may : shH.may = true := rfl
/-- Is an element wrong? -/
def wrongE (x : Elt) : Bool := (decide (x.1 = 1) && decide (x.2.length % 4 ≠ 0)) || decide (65000 < x.2.length)
/-- What is behind a hello's head. -/
def bodyH (ty : Int) (bare : Bool) (els : List Elt) : List Int × Int :=
  if ty = 0 ∧ bare = true ∧ els.any wrongE = false ∧ (shH.join els).2 = 0 ∧ (shH.join els).1.length ≤ 65527 then ((shH.join els).1, 0) else ([], 10001)
/-- The elements that bytes are. -/
def readH (t : Int) (bs : List Int) : List Elt × Int :=
  if t ≠ 0 then ([], 10001) else if (shH.cut bs).2 ≠ 0 then ([], (shH.cut bs).2) else if (shH.cut bs).1.any wrongE = true ∨ 65527 < bs.length then ([], 263) else ((shH.cut bs).1, 0)
theorem bodyH_cases (ty : Int) (bare : Bool) (els : List Elt) : (bodyH ty bare els = ((shH.join els).1, 0) ∧ ty = 0 ∧ bare = true ∧ els.any wrongE = false ∧ (shH.join els).2 = 0 ∧ (shH.join els).1.length ≤ 65527) ∨ (bodyH ty bare els = ([], 10001) ∧ (ty ≠ 0 ∨ bare = false ∨ els.any wrongE = true ∨ (shH.join els).2 ≠ 0 ∨ 65527 < (shH.join els).1.length)) := by
  unfold bodyH
  split
  · rename_i h; exact .inl ⟨rfl, h⟩
  · rename_i h
    refine .inr ⟨rfl, ?_⟩
    by_cases h1 : ty = 0
    · right
      cases h2 : bare with
      | false => exact .inl rfl
      | true =>
        right
        cases h3 : els.any wrongE with
        | true => exact .inl rfl
        | false =>
          right
          by_cases h4 : (shH.join els).2 = 0
          · right
            by_cases h5 : (shH.join els).1.length ≤ 65527
            · exact absurd ⟨h1, h2, h3, h4, h5⟩ h
            · omega
          · exact .inl h4
    · exact .inl h1
theorem readH_cases (t : Int) (bs : List Int) : (t ≠ 0 ∧ readH t bs = ([], 10001)) ∨ (t = 0 ∧ (shH.cut bs).2 ≠ 0 ∧ readH t bs = ([], (shH.cut bs).2)) ∨ (t = 0 ∧ (shH.cut bs).2 = 0 ∧ ((shH.cut bs).1.any wrongE = true ∨ 65527 < bs.length) ∧ readH t bs = ([], 263)) ∨ (t = 0 ∧ (shH.cut bs).2 = 0 ∧ (shH.cut bs).1.any wrongE = false ∧ bs.length ≤ 65527 ∧ readH t bs = ((shH.cut bs).1, 0)) := by
  unfold readH
  by_cases h1 : t ≠ 0
  · exact .inl ⟨h1, by rw [if_pos h1]⟩
  · rw [if_neg h1]
    have h1 : t = 0 := by simpa using h1
    by_cases h2 : (shH.cut bs).2 ≠ 0
    · exact .inr (.inl ⟨h1, h2, by rw [if_pos h2]⟩)
    · rw [if_neg h2]
      have h2 : (shH.cut bs).2 = 0 := by simpa using h2
      by_cases h3 : (shH.cut bs).1.any wrongE = true ∨ 65527 < bs.length
      · exact .inr (.inr (.inl ⟨h1, h2, h3, by rw [if_pos h3]⟩))
      · refine .inr (.inr (.inr ⟨h1, h2, ?_, by omega, by rw [if_neg h3]⟩))
        cases hw : (shH.cut bs).1.any wrongE with
        | false => rfl
        | true => exact absurd (.inl hw) h3
/-- What is written is read. -/
theorem readH_body {ty : Int} {bare : Bool} {els : List Elt} (h : (bodyH ty bare els).2 = 0) : readH ty (bodyH ty bare els).1 = (els, 0) ∧ ty = 0 ∧ bare = true := by
  rcases bodyH_cases ty bare els with ⟨he, rfl, h2, h3, h4, h5⟩ | ⟨he, -⟩
  · rw [he]
    have hc := Sh.cut_join (s := shH) h4
    refine ⟨?_, rfl, h2⟩
    unfold readH
    simp only
    rw [if_neg (by decide), hc, if_neg (by simp), if_neg (by simp only; rw [h3]; simp; omega)]
  · rw [he] at h; cases h
/-- What is read, written again, is those bytes. -/
theorem bodyH_read {t : Int} {bs : List Int} (hu : U8 bs) (h : (readH t bs).2 = 0) : bodyH 0 true (readH t bs).1 = (bs, 0) ∧ t = 0 := by
  rcases readH_cases t bs with ⟨-, he⟩ | ⟨-, hc, he⟩ | ⟨-, -, -, he⟩ | ⟨h1, h2, h3, h4, he⟩
  · rw [he] at h; cases h
  · rw [he] at h; exact absurd h hc
  · rw [he] at h; cases h
  · rw [he]
    have hj := Sh.join_cut hu h2
    refine ⟨?_, h1⟩
    unfold bodyH
    simp only
    rw [hj]
    simp only
    rw [if_pos ⟨trivial, trivial, h3, trivial, h4⟩]
theorem readH_err {t : Int} {bs : List Int} (h : (readH t bs).2 ≠ 0) : (readH t bs).1 = [] := by
  rcases readH_cases t bs with ⟨-, he⟩ | ⟨-, hc, he⟩ | ⟨-, -, -, he⟩ | ⟨h1, h2, h3, h4, he⟩
  · rw [he]
  · rw [he]
  · rw [he]
  · rw [he] at h; exact absurd rfl h
end Go.Proofs.Ytcebcncpbedkmaa
