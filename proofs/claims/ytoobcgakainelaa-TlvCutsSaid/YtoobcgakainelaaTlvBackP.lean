/- What was joined is told thing by thing; what was cut is few and good. Conditions: those of each lemma. -/
import Derived.Test.YtoobcgakainelaaSure04
namespace Go.Proofs.Ytoobcgakainelaa
open Go.RowKit

theorem join_ok {s : Sh} {l : List (Int × List Int)} (h : (s.join l).2 = 0) : s.may = true ∧ l.all s.good = true ∧ (s.join l).1 = s.all l := by
  unfold Sh.join at h ⊢
  split at h
  · rename_i hc
    rw [if_pos hc]
    simp only [Bool.and_eq_true] at hc
    exact ⟨hc.1, hc.2, rfl⟩
  · simp at h
theorem cut_ok {s : Sh} {bs : List Int} (hb : U8 bs) (h : (s.cut bs).2 = 0) : s.may = true ∧ (s.cut bs).1.all s.good = true ∧ s.all (s.cut bs).1 = bs ∧ s.join (s.cut bs).1 = (bs, 0) := by
  have h1 := Sh.join_cut hb h
  have h2 := join_ok (s := s) (l := (s.cut bs).1) (by rw [h1])
  exact ⟨h2.1, h2.2.1, by rw [← h2.2.2, h1], h1⟩
theorem Sh.all_ge {s : Sh} (l : List (Int × List Int)) : l.length ≤ (s.all l).length := by
  induction l with
  | nil => simp
  | cons x l ih =>
    have e : s.all (x :: l) = s.thing x ++ s.all l := by simp [Sh.all]
    rw [e, List.length_append, s.thing_len, List.length_cons]
    omega
theorem Sh.all_at {s : Sh} {l : List (Int × List Int)} {k : Nat} {x : Int × List Int} (h : l[k]? = some x) : (s.all l).drop (s.all (l.take k)).length = s.thing x ++ s.all (l.drop (k + 1)) := by
  have hk := (List.getElem?_eq_some_iff.1 h).1
  have e : l = l.take k ++ x :: l.drop (k + 1) := by
    have h1 := (List.take_append_drop k l).symm
    have h2 : l.drop k = x :: l.drop (k + 1) := by rw [List.drop_eq_getElem_cons hk, (List.getElem?_eq_some_iff.1 h).2]
    rw [h2] at h1
    exact h1
  have e2 : s.all l = s.all (l.take k) ++ (s.thing x ++ s.all (l.drop (k + 1))) := by
    conv => lhs; rw [e]
    simp [Sh.all]
  rw [e2, List.drop_left' rfl]
theorem Sh.one_at {s : Sh} {l : List (Int × List Int)} {k : Nat} {x : Int × List Int} (hm : s.may = true) (hg : l.all s.good = true) (h : l[k]? = some x) : s.one ((s.all l).drop (s.all (l.take k)).length) = (x, (s.thing x).length, 0) ∧ (s.all (l.take k)).length + (s.thing x).length ≤ (s.all l).length ∧ (s.all (l.take (k + 1))).length = (s.all (l.take k)).length + (s.thing x).length := by
  have h1 := Sh.all_at (s := s) h
  refine ⟨by rw [h1]; exact Sh.one_thing hm (List.all_eq_true.1 hg _ (List.mem_of_getElem? h)) _, ?_, by rw [take_snoc' h, Sh.all_snoc, List.length_append]⟩
  have h2 : ((s.all l).drop (s.all (l.take k)).length).length = (s.thing x ++ s.all (l.drop (k + 1))).length := by rw [h1]
  rw [List.length_drop, List.length_append] at h2
  have h3 := s.thing_len x
  omega
theorem few_bodies {l : List (Int × List Int)} (h : fewT l = true) : l.length ≤ 40 ∧ ∀ x ∈ l, x.2.length ≤ 70000 := by
  unfold fewT at h
  simp only [Bool.and_eq_true, decide_eq_true_eq] at h
  exact ⟨h.2, fun x hx => by have := List.all_eq_true.1 h.1 x hx; simpa using this⟩
theorem good_bodies {s : Sh} {l : List (Int × List Int)} (h : l.all s.good = true) : ∀ x ∈ l, x.2.length ≤ 70000 := fun x hx => by
  have := List.all_eq_true.1 h x hx
  simp only [Sh.good, Bool.and_eq_true, decide_eq_true_eq] at this
  omega
theorem cell_at0 {w : World} {X : Nat} {x y : Value} {t : TypeId} {fr : Nat × Nat} (h : w.heap[X]? = some (.cells #[x, y] t fr)) : w.cell? ⟨X, 0, none⟩ = some x := cell_row h 0
theorem Sh1.cell {w w' : World} {s : Sh} (h : Sh1 w s w') (w2 : World) (hb : Below w'.heap.size w' w2) : Sh1 w s w2 := h.step hb h.size
end Go.Proofs.Ytoobcgakainelaa
