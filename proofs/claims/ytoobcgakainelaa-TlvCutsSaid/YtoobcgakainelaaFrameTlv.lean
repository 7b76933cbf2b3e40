/- A shape and a list of things that a statement is called with. Conditions: none beyond each lemma's own. -/
import Derived.Test.YtoobcgakainelaaFitRows
import Derived.Test.YtoobcgakainelaaTlvP
namespace Go.Proofs.Ytoobcgakainelaa
open Go.ChangeShapes Go.WideShapes Go.ChangeAt Go.RowKit
set_option maxRecDepth 100000

abbrev Sh.val (s : Sh) : Value := .agg #[.int .i64 s.least, .int .i64 s.step, .bool s.pad, .int .i64 s.bad, .int .i64 s.odd]
def Sh.wf (s : Sh) : Prop := (Lit.int .i64 s.least).wf = true ∧ (Lit.int .i64 s.step).wf = true ∧ (Lit.int .i64 s.bad).wf = true ∧ (Lit.int .i64 s.odd).wf = true
def ShOk (_ : World) (v : Value) (s : Sh) : Prop := v = s.val ∧ s.wf

theorem agg5 {cs : Array Value} (h : cs.size = 5) : cs = #[cs.getD 0 undef, cs.getD 1 undef, cs.getD 2 undef, cs.getD 3 undef, cs.getD 4 undef] := by
  apply Array.ext (by simp [h])
  intro i h1 h2
  have hi : i < 5 := by omega
  match i, hi with
  | 0, _ => simp [Array.getD, h]
  | 1, _ => simp [Array.getD, h]
  | 2, _ => simp [Array.getD, h]
  | 3, _ => simp [Array.getD, h]
  | 4, _ => simp [Array.getD, h]

theorem arg_shape {H : Type} {enc : TypeId × Value → H} {W : World} {base b0 : Nat} {r : Reach} {sp : Nat → Bool} {hd : Bool} {v : Value} {d : DataW H} {p : List MemPlace}
    (hok : Value.okWide Try.prog W r b0 24 v) (h : DataW.Trod enc Try.prog W base sp hd 24 v d p) : ∃ s, ShOk W v s := by
  obtain ⟨cs, rfl, hsz, hf⟩ := fit_struct Try.underlying24 hok h
  have hsz : cs.size = 5 := hsz.trans (by kernel_rfl)
  obtain ⟨least, e0, w0⟩ := (hf 0 3 (by kernel_rfl) (by kernel_rfl)).asInt Try.underlying3
  obtain ⟨step, e1, w1⟩ := (hf 1 3 (by kernel_rfl) (by kernel_rfl)).asInt Try.underlying3
  obtain ⟨pad, e2⟩ := (hf 2 4 (by kernel_rfl) (by kernel_rfl)).asBool Try.underlying4
  obtain ⟨bad, e3, w3⟩ := (hf 3 22 (by kernel_rfl) (by kernel_rfl)).asInt Try.underlying22
  obtain ⟨odd, e4, w4⟩ := (hf 4 22 (by kernel_rfl) (by kernel_rfl)).asInt Try.underlying22
  refine ⟨⟨least, step, pad, bad, odd⟩, ?_, w0, w1, w3, w4⟩
  have e := agg5 hsz
  rw [show cs.getD 0 undef = _ from e0, show cs.getD 1 undef = _ from e1, show cs.getD 2 undef = _ from e2, show cs.getD 3 undef = _ from e3, show cs.getD 4 undef = _ from e4] at e
  rw [e]

theorem arg_items {H : Type} {enc : TypeId × Value → H} {W : World} {base b0 : Nat} {r : Reach} {sp : Nat → Bool} {hd : Bool} {v : Value} {d : DataW H} {p : List MemPlace}
    (hok : Value.okWide Try.prog W r b0 37 v) (h : DataW.Trod enc Try.prog W base sp hd 37 v d p) : ∃ l, RowsOf ItemR 2 W v l := by
  obtain ⟨a, n, c, rfl⟩ := okWide_slice Try.underlying37 hok
  refine rows_of_fit (fit_slice Try.underlying37 h) Try.underlying37 (by kernel_rfl) (by decide) (fun u f => ?_)
  obtain ⟨k, ek, wk⟩ := (f 0 3 (by kernel_rfl) (by kernel_rfl)).asInt Try.underlying3
  obtain ⟨bs, hb⟩ := (f 1 25 (by kernel_rfl) (by kernel_rfl)).ints Try.underlying25 Try.underlying5 (by kernel_rfl)
  exact ⟨(k, bs), u 1, by rw [show (List.range 2).map u = [u 0, u 1] from rfl, ek], hb, wk⟩
end Go.Proofs.Ytoobcgakainelaa
