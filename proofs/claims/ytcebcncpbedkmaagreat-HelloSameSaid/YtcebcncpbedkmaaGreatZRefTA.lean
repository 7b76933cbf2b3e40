/- The document's shapes: may, zeros; the law's plain, items, few; whether two rows of things are the same. Conditions: those of each lemma. The law's plain, few, items; whether two rows of things are the same. Conditions: those of each lemma. Whether two rows of things are the same; the fixed calls of the fourth chapter come out true. Conditions: those of each lemma. -/
import Derived.Test.YtcebcncpbedkmaaGreatZTlvJ
import Derived.Test.YtcebcncpbedkmaaGreatZTlvE
import Derived.Great.Walk
import Derived.Deep.QuietTactic
namespace Go.Proofs.YtcebcncpbedkmaaGreat
open Go.RowKit
set_option maxRecDepth 100000
set_option maxHeartbeats 4000000

theorem ref_bytes_q (v1 v2 : Value) (xs ys : List Int) (w : World) (h1 : Ints .u8 w v1 xs) (h2 : Ints .u8 w v2 ys) :
    Calls Tryz.prog 22 #[v1, v2] w fun e w' => e = .returned (.bool (decide (xs = ys))) ∧ ∃ q, w' = w.drewN q := by
  have hle := h1.le
  obtain ⟨a, cap, b, off, rfl, -, -, -, ha, hc⟩ := h1.open
  obtain ⟨a2, cap2, b2, off2, rfl, -, -, -, ha2, hc2⟩ := h2.open
  have H1 := Lib.hid ha
  have H3 := Lib.hid hc
  have H2 := Lib.hid ha2
  have H4 := Lib.hid hc2
  clear ha hc h1 h2 ha2 hc2
  by_cases hl : xs.length = ys.length
  · have e1 : ((xs.length : Int) != (xs.length : Int)) = false := by simp
    rw [← hl]
    have HL := Lib.hid hl
    clear hl
    go_enter Tryz.func22, Tryz.ntmps22
    go_wp2
    go_loopw [4, 5] (fun r i wr => ∃ k q : Nat, k ≤ xs.length ∧ i = .int .i64 k ∧ r = .bool false ∧ wr = w.drewN q ∧ Hid (xs.take k = ys.take k)) (fun _ i _ => xs.length - (intOf i).toNat)
    case atStart => exact ⟨0, 0, by omega, rfl, rfl, rfl, rfl⟩
    case round =>
      obtain ⟨k, q, hk, rfl, rfl, rfl, HT⟩ := hrel
      by_cases hlt : k < xs.length
      · obtain rfl := H1.out (by omega)
        obtain rfl := H2.out (by have := HL.out; omega)
        obtain ⟨x, hx, hcx⟩ := name_cell (H3.out k hlt)
        obtain ⟨y, hy, hcy⟩ := name_cell (H4.out k (by have := HL.out; omega))
        have HX := Lib.hid hx
        have HY := Lib.hid hy
        clear hx hy
        have hlt' : (k : Int) < xs.length := by omega
        by_cases he : x = y
        · subst he
          go_wp2_with fail
          go_quiet (fail)
          go_wp2_with fail
          go_roundw
          case rel => exact ⟨k + 1, q + nq, by omega, by go_num, rfl, rfl, take_step hlt (by have := HL.out; omega) HT.out (HX.out.symm.trans HY.out)⟩
          case measure => simp [intOf]; omega
        · go_wp2_with fail
          go_quiet (fail)
          go_wp2_with fail
          go_ret
          have hne : decide (xs = ys) = false := by
            rw [decide_eq_false_iff_not]
            rintro rfl
            exact he (HX.out.trans HY.out.symm)
          exact ⟨by rw [hne]; rfl, q + nq, by simp [World.drewN, Nat.add_assoc]⟩
      · obtain rfl : k = xs.length := by omega
        go_wp2_with fail
        go_ret
        exact ⟨by rw [decide_eq_true (eq_of_take HL.out HT.out)]; rfl, q, rfl⟩
  · have hne : decide (xs = ys) = false := by
      rw [decide_eq_false_iff_not]
      rintro rfl
      exact hl rfl
    have HNE := Lib.hid hne
    have hb : ((xs.length : Int) != (ys.length : Int)) = true := by simp; omega
    clear hne
    go_enter Tryz.func22, Tryz.ntmps22
    go_wp2
    go_ret
    exact ⟨by rw [HNE.out]; rfl, 0, rfl⟩

theorem zer_hit {st : Nat} (n : Nat) (h : 0 < st) : (n + (st - n % st) % st) % st = 0 := by
  have h1 := Nat.mod_lt n h
  by_cases h0 : n % st = 0
  · rw [h0, Nat.sub_zero, Nat.mod_self, Nat.add_zero]; exact h0
  · rw [Nat.mod_eq_of_lt (show st - n % st < st by omega)]
    have h2 := Nat.div_add_mod n st
    rw [show n + (st - n % st) = st * (n / st) + st by omega, Nat.add_mod_right, Nat.mul_mod_right]
theorem zer_miss {st n k : Nat} (h : 0 < st) (hk : k < (st - n % st) % st) : (n + k) % st ≠ 0 := by
  have h1 := Nat.mod_lt n h
  by_cases h0 : n % st = 0
  · rw [h0, Nat.sub_zero, Nat.mod_self] at hk; omega
  · rw [Nat.mod_eq_of_lt (show st - n % st < st by omega)] at hk
    have h2 := Nat.div_add_mod n st
    rw [show n + k = n % st + k + st * (n / st) by omega, Nat.add_mul_mod_self_left, Nat.mod_eq_of_lt (by omega)]
    omega

end Go.Proofs.YtcebcncpbedkmaaGreat
namespace Go.Proofs.YtcebcncpbedkmaaGreat
open Go.RowKit
set_option maxRecDepth 100000
set_option maxHeartbeats 4000000

theorem res_row1 {P : Program} {fn : Func} {p : Tmp} {ty : TypeId} (h : fn.results = #[.cell p ty]) (tmps : Array Value) (w : World) (g : Nat) (t : TypeId) (cs : Array Value) (fr : Nat × Nat) (d : TypeDesc)
    (hp : tmps.getD p undef = .pointer (some ⟨g, 0, none⟩)) (hg : w.heap[g]? = some (.cells cs t fr))
    (hu : P.underlying ty = some d) (hd : (match d with | .struct _ | .array _ _ => true | _ => false) = true) (hi : (P.info? ty).map (·.size) = some cs.size) :
    (results fn tmps).run P w = .ok (.agg cs) w := by
  have hp' : tmps[p]?.getD undef = .pointer (some ⟨g, 0, none⟩) := by simpa using hp
  simp [results, h, hp', asAddr, run_loadVar_row w g t ty cs fr d hg hu hd hi]

/-- Are there few things? -/
def fewT (l : List (Int × List Int)) : Bool := l.all (fun x => decide (x.2.length ≤ 70000)) && decide (l.length ≤ 40)
theorem ints_row {k : IntKind} {w w' : World} {v : Value} {zs : List Int} {row : Option Nat} (h : Ints k w v zs) (hg : w.grownBy w' row) (hr : 0 < zs.length → ∀ b, v.ownBlock = some b → some b ≠ row) : Ints k w' v zs := by
  obtain ⟨⟨a, cap, b, off, rfl, h2, h3, h4, h5, h6⟩, hw⟩ := h
  refine ⟨⟨a, cap, b, off, rfl, h2, h3, h4, h5, ?_⟩, hw⟩
  rcases Nat.eq_zero_or_pos zs.length with h0 | h0
  · intro i hi; simp at hi; omega
  · obtain rfl := h5 h0
    exact h6.grown hg (hr h0 b rfl)

end Go.Proofs.YtcebcncpbedkmaaGreat
namespace Go.Proofs.YtcebcncpbedkmaaGreat
open Go.RowKit
set_option maxRecDepth 100000
set_option maxHeartbeats 4000000

theorem quiet_some {P : Program} {f : FuncId} {args : Array Value} {w : World} {n : Nat} {v : Value} (h : Calls P f args (w.drewN n) fun e w' => e = .returned v ∧ ∃ q, w' = (w.drewN n).drewN q) : Calls P f args (w.drewN n) fun e w'' => e = .returned v ∧ ∃ m, w'' = w.drewN m :=
  h.mono fun _ _ ⟨h1, q, h2⟩ => ⟨h1, n + q, by rw [h2]; simp [World.drewN, Nat.add_assoc]⟩

theorem take_both {α : Type} {l m : List α} {k : Nat} {x : α} (h1 : l[k]? = some x) (h2 : m[k]? = some x) (ht : l.take k = m.take k) : l.take (k + 1) = m.take (k + 1) := by
  rw [take_snoc' h1, take_snoc' h2, ht]
theorem get_ne {α : Type} {l m : List α} {k : Nat} {x y : α} (h1 : l[k]? = some x) (h2 : m[k]? = some y) (hne : x ≠ y) : l ≠ m := by
  rintro rfl
  rw [h1] at h2
  injection h2 with h2
  exact hne h2

end Go.Proofs.YtcebcncpbedkmaaGreat
