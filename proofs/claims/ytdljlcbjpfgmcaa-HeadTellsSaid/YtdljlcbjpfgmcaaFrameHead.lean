/- How a head that came in as an argument is opened. Conditions: the value reads as a head. -/
import Derived.Test.YtdljlcbjpfgmcaaHeadC
import Derived.Test.YtdljlcbjpfgmcaaFrame
import Derived.Lib.SmallJoins
namespace Go.Proofs.Ytdljlcbjpfgmcaa
open Go.RowKit Go.Joins

set_option maxRecDepth 100000 in
theorem open_head {H : Type} {enc : TypeId × Value → H} {W : World} {base b0 : Nat} {sp : Nat → Bool} {hd : Bool} {v : Value} {d : DataW H} {p : List MemPlace}
    (hok : Value.okWide Try.prog W .any b0 48 v) (h : DataW.Trod enc Try.prog W base sp hd 48 v d p) : ∃ z : Hd, v = z.val ∧ z.ok := by
  obtain ⟨c0, c1, c2, c3, y0, y1, y2, y3, m, rfl, rfl, rfl, h0, h1, h2, h3⟩ := open_agg4 Try.underlying48 (by kernel_rfl) (by kernel_rfl) hok h
  obtain ⟨a, e0, -, wa⟩ := DataW.trod_int Try.underlying3 h0
  obtain ⟨b, e1, -, wb⟩ := DataW.trod_int Try.underlying3 h1
  obtain ⟨c, e2, -, wc⟩ := DataW.trod_int Try.underlying3 h2
  obtain ⟨x, e3, -, wx⟩ := DataW.trod_int Try.underlying46 h3
  simp at e0 e1 e2 e3
  subst e0 e1 e2 e3
  exact ⟨⟨a, b, c, x⟩, rfl, ⟨wa, wb, wc, wx⟩⟩
end Go.Proofs.Ytdljlcbjpfgmcaa
