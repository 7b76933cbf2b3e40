/- What a slice of operations that a statement is called with gives to a walk. Conditions: none beyond each lemma's own. -/
import Derived.Test.YtdljlcbjpfgmcaaCurD
import Derived.Test.YtdljlcbjpfgmcaaFit
import Derived.Test.YtdljlcbjpfgmcaaFrame
namespace Go.Proofs.Ytdljlcbjpfgmcaa
open Go.ChangeShapes Go.WideShapes Go.ChangeAt Go.RowKit
set_option maxRecDepth 100000

/-- An operation: its kind, its number, its row. -/
structure OpV where
  kind : Int
  n : Int
  vw : Value
  ws : List Int

/-- The value v is the operations l. -/
structure OpsOk (w : World) (v : Value) (l : List OpV) : Prop where
  sl : ∃ (a : Option Addr) (cap b off : Nat), v = .slice a l.length cap ∧ l.length ≤ cap ∧ cap ≤ maxLen ∧ (0 < l.length → a = some ⟨b, off, none⟩) ∧
    (∀ i o, l[i]? = some o → w.cell? ⟨b, off + i * 3 + 0, none⟩ = some (.int .i64 o.kind) ∧ w.cell? ⟨b, off + i * 3 + 1, none⟩ = some (.int .i64 o.n) ∧ w.cell? ⟨b, off + i * 3 + 2, none⟩ = some o.vw)
  ints : ∀ o ∈ l, Ints .i64 w o.vw o.ws
  wf : ∀ o ∈ l, (Lit.int .i64 o.kind).wf = true ∧ (Lit.int .i64 o.n).wf = true

theorem list_of {α : Type} {P : Nat → α → Prop} : ∀ (n : Nat), (∀ i, i < n → ∃ x, P i x) → ∃ l : List α, l.length = n ∧ ∀ i x, l[i]? = some x → P i x := by
  intro n
  induction n with
  | zero => exact fun _ => ⟨[], rfl, fun i x h => by simp at h⟩
  | succ n ih =>
    intro h
    obtain ⟨l, hl, hp⟩ := ih (fun i hi => h i (by omega))
    obtain ⟨x, hx⟩ := h n (by omega)
    refine ⟨l ++ [x], by simp [hl], fun i y hy => ?_⟩
    by_cases hi : i < l.length
    · exact hp i y (by rwa [List.getElem?_append_left hi] at hy)
    · rw [List.getElem?_append_right (by omega)] at hy
      have h0 : i - l.length = 0 := by
        rcases Nat.eq_zero_or_pos (i - l.length) with h0 | h0
        · exact h0
        · rw [List.getElem?_eq_none (by simp; omega)] at hy; cases hy
      rw [h0] at hy
      have : y = x := by simpa using hy.symm
      subst this
      obtain rfl : i = n := by omega
      exact hx

theorem arg_ops {H : Type} {enc : TypeId × Value → H} {W : World} {base b0 : Nat} {r : Reach} {sp : Nat → Bool} {hd : Bool} {v : Value} {d : DataW H} {p : List MemPlace}
    (hok : Value.okWide Try.prog W r b0 59 v) (h : DataW.Trod enc Try.prog W base sp hd 59 v d p) : ∃ l, OpsOk W v l := by
  obtain ⟨a, n, c, rfl⟩ := okWide_slice Try.underlying59 hok
  obtain ⟨a', n', cap, b, off, u, e, h1, h2, h3, h4, h5⟩ := (fit_slice Try.underlying59 h).opens Try.underlying59 (C := 3) (by kernel_rfl) (by decide)
  injection e with e1 e2 e3
  subst e1 e2 e3
  obtain ⟨l, hl, hp⟩ := list_of (P := fun i (o : OpV) => u i 0 = .int .i64 o.kind ∧ u i 1 = .int .i64 o.n ∧ u i 2 = o.vw ∧ Ints .i64 W o.vw o.ws ∧ (Lit.int .i64 o.kind).wf = true ∧ (Lit.int .i64 o.n).wf = true) n (fun i hi => by
    have f := h5 i hi
    obtain ⟨k, ek, wk⟩ := (f 0 3 (by kernel_rfl) (by kernel_rfl)).asInt Try.underlying3
    obtain ⟨m, em, wm⟩ := (f 1 3 (by kernel_rfl) (by kernel_rfl)).asInt Try.underlying3
    obtain ⟨ws, hw⟩ := (f 2 22 (by kernel_rfl) (by kernel_rfl)).ints Try.underlying22 Try.underlying3 (by kernel_rfl)
    exact ⟨⟨k, m, u i 2, ws⟩, ek, em, rfl, hw, wk, wm⟩)
  refine ⟨l, ⟨⟨a, c, b, off, by rw [hl], by rw [hl]; exact h1, h2, by rw [hl]; exact h3, fun i o ho => ?_⟩, fun o ho => ?_, fun o ho => ?_⟩⟩
  · have hi : i < n := hl ▸ (List.getElem?_eq_some_iff.1 ho).1
    obtain ⟨p1, p2, p3, -⟩ := hp i o ho
    exact ⟨p1 ▸ h4 i 0 hi (by decide), p2 ▸ h4 i 1 hi (by decide), p3 ▸ h4 i 2 hi (by decide)⟩
  · obtain ⟨i, hi⟩ := List.mem_iff_getElem?.1 ho
    exact (hp i o hi).2.2.2.1
  · obtain ⟨i, hi⟩ := List.mem_iff_getElem?.1 ho
    exact (hp i o hi).2.2.2.2
end Go.Proofs.Ytdljlcbjpfgmcaa
