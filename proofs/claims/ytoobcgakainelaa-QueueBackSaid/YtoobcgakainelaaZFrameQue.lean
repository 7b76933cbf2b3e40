/- A list of queues that a statement is called with. Conditions: none beyond each lemma's own. -/
import Derived.Test.YtoobcgakainelaaZFit
import Derived.Test.YtoobcgakainelaaZQueP
namespace Go.Proofs.Ytoobcgakainelaa
open Go.ChangeShapes Go.WideShapes Go.ChangeAt Go.RowKit
set_option maxRecDepth 100000

theorem fit_props {w : World} {v : Value} (h : Fit Try.prog w 77 v) : ∃ l, RowsOf PrpR 3 w v l := by
  refine rows_of_fit h Try.underlying77 (by kernel_rfl) (by decide) (fun u f => ?_)
  obtain ⟨k, ek, wk⟩ := (f 0 3 (by kernel_rfl) (by kernel_rfl)).asInt Try.underlying3
  obtain ⟨n, en, wn⟩ := (f 1 76 (by kernel_rfl) (by kernel_rfl)).asInt Try.underlying76
  obtain ⟨bs, hb⟩ := (f 2 25 (by kernel_rfl) (by kernel_rfl)).ints Try.underlying25 Try.underlying5 (by kernel_rfl)
  exact ⟨(k, n, bs), u 2, by rw [show (List.range 3).map u = [u 0, u 1, u 2] from rfl, ek, en], hb, wk, wn⟩
theorem fit_queues {w : World} {v : Value} (h : Fit Try.prog w 54 v) : ∃ l, RowsOf QueR 3 w v l := by
  refine rows_of_fit h Try.underlying54 (by kernel_rfl) (by decide) (fun u f => ?_)
  obtain ⟨k, ek, wk⟩ := (f 0 76 (by kernel_rfl) (by kernel_rfl)).asInt Try.underlying76
  obtain ⟨n, en, wn⟩ := (f 1 76 (by kernel_rfl) (by kernel_rfl)).asInt Try.underlying76
  obtain ⟨ps, hp⟩ := fit_props (f 2 77 (by kernel_rfl) (by kernel_rfl))
  exact ⟨(k, n, ps), u 2, by rw [show (List.range 3).map u = [u 0, u 1, u 2] from rfl, ek, en], hp, wk, wn⟩
theorem arg_queues {H : Type} {enc : TypeId × Value → H} {W : World} {base b0 : Nat} {r : Reach} {sp : Nat → Bool} {hd : Bool} {v : Value} {d : DataW H} {p : List MemPlace}
    (hok : Value.okWide Try.prog W r b0 54 v) (h : DataW.Trod enc Try.prog W base sp hd 54 v d p) : ∃ l, RowsOf QueR 3 W v l := by
  obtain ⟨a, n, c, rfl⟩ := okWide_slice Try.underlying54 hok
  exact fit_queues (fit_slice Try.underlying54 h)
end Go.Proofs.Ytoobcgakainelaa
