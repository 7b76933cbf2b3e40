/- An argument that is a slice of structs, as a list. Conditions: none beyond each lemma's own. -/
import Derived.Test.YtoobcgakainelaaNest
import Derived.Test.YtoobcgakainelaaFit
import Derived.Test.YtoobcgakainelaaFrame
namespace Go.Proofs.Ytoobcgakainelaa
open Go.ChangeShapes Go.WideShapes Go.ChangeAt Go.RowKit
set_option maxRecDepth 100000

theorem list_of {α : Type} {P : Nat → α → Prop} : ∀ (n : Nat), (∀ i, i < n → ∃ x, P i x) → ∃ l : List α, l.length = n ∧ ∀ i x, l[i]? = some x → P i x := by
  intro n
  induction n with
  | zero => exact fun _ => ⟨[], rfl, fun i x h => by simp at h⟩
  | succ n ih =>
    intro h
    obtain ⟨l, hl, hp⟩ := ih (fun i hi => h i (by omega))
    obtain ⟨x, hx⟩ := h n (by omega)
    refine ⟨l ++ [x], by simp [hl], fun i y hy => ?_⟩
    by_cases hi : i < l.length
    · exact hp i y (by rwa [List.getElem?_append_left hi] at hy)
    · rw [List.getElem?_append_right (by omega)] at hy
      have h0 : i - l.length = 0 := by
        rcases Nat.eq_zero_or_pos (i - l.length) with h0 | h0
        · exact h0
        · rw [List.getElem?_eq_none (by simp; omega)] at hy; cases hy
      rw [h0] at hy
      have : y = x := by simpa using hy.symm
      subst this
      obtain rfl : i = n := by omega
      exact hx

theorem Fit.none0 {P : Program} {w : World} {t : TypeId} {a : Option Addr} {n cap : Nat} (h : Fit P w t (.slice a n cap)) : a = none → cap = 0 := by
  cases h with
  | nil hu => exact fun _ => rfl
  | row a len cap u hu hl hm hc hf => exact fun h => by cases h
theorem Fit.asBool {P : Program} {w : World} {t : TypeId} {v : Value} (h : Fit P w t v) (ht : P.underlying t = some .bool) : ∃ b : Bool, v = .bool b := by
  cases h with
  | bool b hu => exact ⟨b, rfl⟩
  | int n hu hw => rw [hu] at ht; cases ht
  | text s hu hw => rw [hu] at ht; cases ht
  | nil hu => rw [hu] at ht; cases ht
  | row a len cap u hu hl hm hc hf => rw [hu] at ht; cases ht

theorem rows_of_fit {α : Type} {R : World → α → List Value → Prop} {P : Program} {w : World} {t e : TypeId} {C : Nat} {v : Value} (h : Fit P w t v) (ht : P.underlying t = some (.slice e)) (hC : P.cellsOf e = C) (h0 : 0 < C)
    (hR : ∀ u : Nat → Value, FitRow P w e u → ∃ x, R w x ((List.range C).map u)) : ∃ l, RowsOf R C w v l := by
  obtain ⟨a, n, cap, b, off, u, rfl, h1, h2, h3, h4, h5⟩ := h.opens ht hC h0
  obtain ⟨l, hl, hp⟩ := list_of (P := fun i x => R w x ((List.range C).map (u i))) n (fun i hi => hR _ (h5 i hi))
  subst hl
  refine ⟨l, a, cap, b, off, rfl, h1, h2, h.none0, h3, fun i x hi => ⟨(List.range C).map (u i), by simp, hp i x hi, fun j z hj => ?_⟩⟩
  have hi' := (List.getElem?_eq_some_iff.1 hi).1
  have hj' : j < C := by
    have := (List.getElem?_eq_some_iff.1 hj).1
    simpa using this
  have := h4 i j hi' hj'
  rw [this]
  rw [List.getElem?_map, List.getElem?_range hj'] at hj
  exact hj
end Go.Proofs.Ytoobcgakainelaa
