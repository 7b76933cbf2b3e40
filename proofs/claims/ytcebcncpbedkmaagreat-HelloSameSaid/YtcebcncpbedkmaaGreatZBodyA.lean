/- The walks of hello.Bare and of the document's, of any message: whether it has nothing but its type and its number. Conditions: none. -/
import Derived.Test.YtcebcncpbedkmaaGreatZBodyL
namespace Go.Proofs.YtcebcncpbedkmaaGreat
open Go.RowKit
set_option maxRecDepth 100000
set_option maxHeartbeats 4000000

theorem len4 (a : Option Addr) (n c : Nat) (b : Bool) (hb : decide (n = 0) = b) (w : World) : Calls Tryz.prog 47 #[.slice a n c] w fun e w' => e = .returned (.bool b) ∧ w = w' := by
  have e1 : ((n : Int) == 0) = b := by subst hb; by_cases h : n = 0 <;> simp [h]
  go_enter Tryz.func47, Tryz.ntmps47
  cases b <;> (go_wp2; go_ret; exact ⟨rfl, rfl⟩)

theorem len5 (a : Option Addr) (n c : Nat) (b : Bool) (hb : decide (n = 0) = b) (w : World) : Calls Tryz.prog 48 #[.slice a n c] w fun e w' => e = .returned (.bool b) ∧ w = w' := by
  have e1 : ((n : Int) == 0) = b := by subst hb; by_cases h : n = 0 <;> simp [h]
  go_enter Tryz.func48, Tryz.ntmps48
  cases b <;> (go_wp2; go_ret; exact ⟨rfl, rfl⟩)

theorem len6 (a : Option Addr) (n c : Nat) (b : Bool) (hb : decide (n = 0) = b) (w : World) : Calls Tryz.prog 49 #[.slice a n c] w fun e w' => e = .returned (.bool b) ∧ w = w' := by
  have e1 : ((n : Int) == 0) = b := by subst hb; by_cases h : n = 0 <;> simp [h]
  go_enter Tryz.func49, Tryz.ntmps49
  cases b <;> (go_wp2; go_ret; exact ⟨rfl, rfl⟩)

theorem len7 (a : Option Addr) (n c : Nat) (b : Bool) (hb : decide (n = 0) = b) (w : World) : Calls Tryz.prog 50 #[.slice a n c] w fun e w' => e = .returned (.bool b) ∧ w = w' := by
  have e1 : ((n : Int) == 0) = b := by subst hb; by_cases h : n = 0 <;> simp [h]
  go_enter Tryz.func50, Tryz.ntmps50
  cases b <;> (go_wp2; go_ret; exact ⟨rfl, rfl⟩)

theorem len8 (a : Option Addr) (n c : Nat) (b : Bool) (hb : decide (n = 0) = b) (w : World) : Calls Tryz.prog 51 #[.slice a n c] w fun e w' => e = .returned (.bool b) ∧ w = w' := by
  have e1 : ((n : Int) == 0) = b := by subst hb; by_cases h : n = 0 <;> simp [h]
  go_enter Tryz.func51, Tryz.ntmps51
  cases b <;> (go_wp2; go_ret; exact ⟨rfl, rfl⟩)

theorem len9 (a : Option Addr) (n c : Nat) (b : Bool) (hb : decide (n = 0) = b) (w : World) : Calls Tryz.prog 52 #[.slice a n c] w fun e w' => e = .returned (.bool b) ∧ w = w' := by
  have e1 : ((n : Int) == 0) = b := by subst hb; by_cases h : n = 0 <;> simp [h]
  go_enter Tryz.func52, Tryz.ntmps52
  cases b <;> (go_wp2; go_ret; exact ⟨rfl, rfl⟩)

theorem len10 (a : Option Addr) (n c : Nat) (b : Bool) (hb : decide (n = 0) = b) (w : World) : Calls Tryz.prog 53 #[.slice a n c] w fun e w' => e = .returned (.bool b) ∧ w = w' := by
  have e1 : ((n : Int) == 0) = b := by subst hb; by_cases h : n = 0 <;> simp [h]
  go_enter Tryz.func53, Tryz.ntmps53
  cases b <;> (go_wp2; go_ret; exact ⟨rfl, rfl⟩)

theorem len11 (a : Option Addr) (n c : Nat) (b : Bool) (hb : decide (n = 0) = b) (w : World) : Calls Tryz.prog 54 #[.slice a n c] w fun e w' => e = .returned (.bool b) ∧ w = w' := by
  have e1 : ((n : Int) == 0) = b := by subst hb; by_cases h : n = 0 <;> simp [h]
  go_enter Tryz.func54, Tryz.ntmps54
  cases b <;> (go_wp2; go_ret; exact ⟨rfl, rfl⟩)

theorem len14 (a : Option Addr) (n c : Nat) (b : Bool) (hb : decide (n = 0) = b) (w : World) : Calls Tryz.prog 55 #[.slice a n c] w fun e w' => e = .returned (.bool b) ∧ w = w' := by
  have e1 : ((n : Int) == 0) = b := by subst hb; by_cases h : n = 0 <;> simp [h]
  go_enter Tryz.func55, Tryz.ntmps55
  cases b <;> (go_wp2; go_ret; exact ⟨rfl, rfl⟩)

theorem lenn (a : Option Addr) (n c : Nat) (b : Bool) (hb : decide (n = 0) = b) (w : World) : Calls Tryz.prog 56 #[.slice a n c] w fun e w' => e = .returned (.bool b) ∧ w = w' := by
  have e1 : ((n : Int) == 0) = b := by subst hb; by_cases h : n = 0 <;> simp [h]
  go_enter Tryz.func56, Tryz.ntmps56
  cases b <;> (go_wp2; go_ret; exact ⟨rfl, rfl⟩)

theorem lend (a : Option Addr) (n c : Nat) (b : Bool) (hb : decide (n = 0) = b) (w : World) : Calls Tryz.prog 57 #[.slice a n c] w fun e w' => e = .returned (.bool b) ∧ w = w' := by
  have e1 : ((n : Int) == 0) = b := by subst hb; by_cases h : n = 0 <;> simp [h]
  go_enter Tryz.func57, Tryz.ntmps57
  cases b <;> (go_wp2; go_ret; exact ⟨rfl, rfl⟩)

theorem bare_go (ty xid : Int) (an : Option Addr) (nn cn : Nat) (ad : Option Addr) (nd cd : Nat) (L : Lens) (w : World) : Calls Tryz.prog 8 #[.agg (msgL ty xid (.slice an nn cn) (.slice ad nd cd) L)] w fun e w' => e = .returned (.bool (decide (nn = 0) && bareL L && decide (nd = 0))) ∧ Below w.heap.size w w' := by
  have HB : Hid (Below w.heap.size w (w.alloc (.cells (msgL ty xid (.slice an nn cn) (.slice ad nd cd) L) 35))) := below_alloc2 _
  by_cases k4 : L.n4 = 0
  case neg =>
    have hq : (decide (nn = 0) && bareL L && decide (nd = 0)) = false := by simp [bareL, k4]
    rw [hq]
    have d4 : Hid (decide (L.n4 = 0) = false) := by simp [Hid, k4]
    replace k4 := Lib.hid k4
    clear hq
    go_enter Tryz.func8, Tryz.ntmps8
    go_wp2_with (first
    | (go_at_call 47; (with_reducible refine (len4 _ _ _ _ d4.out _).mono ?_); rintro e w1 ⟨rfl, rfl⟩)
    | (go_at_call 48; (with_reducible refine (len5 _ _ _ _ d5.out _).mono ?_); rintro e w1 ⟨rfl, rfl⟩)
    | (go_at_call 49; (with_reducible refine (len6 _ _ _ _ d6.out _).mono ?_); rintro e w1 ⟨rfl, rfl⟩)
    | (go_at_call 50; (with_reducible refine (len7 _ _ _ _ d7.out _).mono ?_); rintro e w1 ⟨rfl, rfl⟩)
    | (go_at_call 51; (with_reducible refine (len8 _ _ _ _ d8.out _).mono ?_); rintro e w1 ⟨rfl, rfl⟩)
    | (go_at_call 52; (with_reducible refine (len9 _ _ _ _ d9.out _).mono ?_); rintro e w1 ⟨rfl, rfl⟩)
    | (go_at_call 53; (with_reducible refine (len10 _ _ _ _ d10.out _).mono ?_); rintro e w1 ⟨rfl, rfl⟩)
    | (go_at_call 54; (with_reducible refine (len11 _ _ _ _ d11.out _).mono ?_); rintro e w1 ⟨rfl, rfl⟩)
    | (go_at_call 55; (with_reducible refine (len14 _ _ _ _ d14.out _).mono ?_); rintro e w1 ⟨rfl, rfl⟩)
    | (go_at_call 56; (with_reducible refine (lenn _ _ _ _ dn.out _).mono ?_); rintro e w1 ⟨rfl, rfl⟩)
    | (go_at_call 57; (with_reducible refine (lend _ _ _ _ dd.out _).mono ?_); rintro e w1 ⟨rfl, rfl⟩))
    show bodyPost _ _ _ Exit.ret _ _
    go_ret
    exact ⟨rfl, HB.out⟩
  have d4 : Hid (decide (L.n4 = 0) = true) := by simp [Hid, k4]
  replace k4 := Lib.hid k4
  by_cases k5 : L.n5 = 0
  case neg =>
    have hq : (decide (nn = 0) && bareL L && decide (nd = 0)) = false := by simp [bareL, k5]
    rw [hq]
    have d5 : Hid (decide (L.n5 = 0) = false) := by simp [Hid, k5]
    replace k5 := Lib.hid k5
    clear hq
    go_enter Tryz.func8, Tryz.ntmps8
    go_wp2_with (first
    | (go_at_call 47; (with_reducible refine (len4 _ _ _ _ d4.out _).mono ?_); rintro e w1 ⟨rfl, rfl⟩)
    | (go_at_call 48; (with_reducible refine (len5 _ _ _ _ d5.out _).mono ?_); rintro e w1 ⟨rfl, rfl⟩)
    | (go_at_call 49; (with_reducible refine (len6 _ _ _ _ d6.out _).mono ?_); rintro e w1 ⟨rfl, rfl⟩)
    | (go_at_call 50; (with_reducible refine (len7 _ _ _ _ d7.out _).mono ?_); rintro e w1 ⟨rfl, rfl⟩)
    | (go_at_call 51; (with_reducible refine (len8 _ _ _ _ d8.out _).mono ?_); rintro e w1 ⟨rfl, rfl⟩)
    | (go_at_call 52; (with_reducible refine (len9 _ _ _ _ d9.out _).mono ?_); rintro e w1 ⟨rfl, rfl⟩)
    | (go_at_call 53; (with_reducible refine (len10 _ _ _ _ d10.out _).mono ?_); rintro e w1 ⟨rfl, rfl⟩)
    | (go_at_call 54; (with_reducible refine (len11 _ _ _ _ d11.out _).mono ?_); rintro e w1 ⟨rfl, rfl⟩)
    | (go_at_call 55; (with_reducible refine (len14 _ _ _ _ d14.out _).mono ?_); rintro e w1 ⟨rfl, rfl⟩)
    | (go_at_call 56; (with_reducible refine (lenn _ _ _ _ dn.out _).mono ?_); rintro e w1 ⟨rfl, rfl⟩)
    | (go_at_call 57; (with_reducible refine (lend _ _ _ _ dd.out _).mono ?_); rintro e w1 ⟨rfl, rfl⟩))
    show bodyPost _ _ _ Exit.ret _ _
    go_ret
    exact ⟨rfl, HB.out⟩
  have d5 : Hid (decide (L.n5 = 0) = true) := by simp [Hid, k5]
  replace k5 := Lib.hid k5
  by_cases k6 : L.n6 = 0
  case neg =>
    have hq : (decide (nn = 0) && bareL L && decide (nd = 0)) = false := by simp [bareL, k6]
    rw [hq]
    have d6 : Hid (decide (L.n6 = 0) = false) := by simp [Hid, k6]
    replace k6 := Lib.hid k6
    clear hq
    go_enter Tryz.func8, Tryz.ntmps8
    go_wp2_with (first
    | (go_at_call 47; (with_reducible refine (len4 _ _ _ _ d4.out _).mono ?_); rintro e w1 ⟨rfl, rfl⟩)
    | (go_at_call 48; (with_reducible refine (len5 _ _ _ _ d5.out _).mono ?_); rintro e w1 ⟨rfl, rfl⟩)
    | (go_at_call 49; (with_reducible refine (len6 _ _ _ _ d6.out _).mono ?_); rintro e w1 ⟨rfl, rfl⟩)
    | (go_at_call 50; (with_reducible refine (len7 _ _ _ _ d7.out _).mono ?_); rintro e w1 ⟨rfl, rfl⟩)
    | (go_at_call 51; (with_reducible refine (len8 _ _ _ _ d8.out _).mono ?_); rintro e w1 ⟨rfl, rfl⟩)
    | (go_at_call 52; (with_reducible refine (len9 _ _ _ _ d9.out _).mono ?_); rintro e w1 ⟨rfl, rfl⟩)
    | (go_at_call 53; (with_reducible refine (len10 _ _ _ _ d10.out _).mono ?_); rintro e w1 ⟨rfl, rfl⟩)
    | (go_at_call 54; (with_reducible refine (len11 _ _ _ _ d11.out _).mono ?_); rintro e w1 ⟨rfl, rfl⟩)
    | (go_at_call 55; (with_reducible refine (len14 _ _ _ _ d14.out _).mono ?_); rintro e w1 ⟨rfl, rfl⟩)
    | (go_at_call 56; (with_reducible refine (lenn _ _ _ _ dn.out _).mono ?_); rintro e w1 ⟨rfl, rfl⟩)
    | (go_at_call 57; (with_reducible refine (lend _ _ _ _ dd.out _).mono ?_); rintro e w1 ⟨rfl, rfl⟩))
    show bodyPost _ _ _ Exit.ret _ _
    go_ret
    exact ⟨rfl, HB.out⟩
  have d6 : Hid (decide (L.n6 = 0) = true) := by simp [Hid, k6]
  replace k6 := Lib.hid k6
  by_cases k7 : L.n7 = 0
  case neg =>
    have hq : (decide (nn = 0) && bareL L && decide (nd = 0)) = false := by simp [bareL, k7]
    rw [hq]
    have d7 : Hid (decide (L.n7 = 0) = false) := by simp [Hid, k7]
    replace k7 := Lib.hid k7
    clear hq
    go_enter Tryz.func8, Tryz.ntmps8
    go_wp2_with (first
    | (go_at_call 47; (with_reducible refine (len4 _ _ _ _ d4.out _).mono ?_); rintro e w1 ⟨rfl, rfl⟩)
    | (go_at_call 48; (with_reducible refine (len5 _ _ _ _ d5.out _).mono ?_); rintro e w1 ⟨rfl, rfl⟩)
    | (go_at_call 49; (with_reducible refine (len6 _ _ _ _ d6.out _).mono ?_); rintro e w1 ⟨rfl, rfl⟩)
    | (go_at_call 50; (with_reducible refine (len7 _ _ _ _ d7.out _).mono ?_); rintro e w1 ⟨rfl, rfl⟩)
    | (go_at_call 51; (with_reducible refine (len8 _ _ _ _ d8.out _).mono ?_); rintro e w1 ⟨rfl, rfl⟩)
    | (go_at_call 52; (with_reducible refine (len9 _ _ _ _ d9.out _).mono ?_); rintro e w1 ⟨rfl, rfl⟩)
    | (go_at_call 53; (with_reducible refine (len10 _ _ _ _ d10.out _).mono ?_); rintro e w1 ⟨rfl, rfl⟩)
    | (go_at_call 54; (with_reducible refine (len11 _ _ _ _ d11.out _).mono ?_); rintro e w1 ⟨rfl, rfl⟩)
    | (go_at_call 55; (with_reducible refine (len14 _ _ _ _ d14.out _).mono ?_); rintro e w1 ⟨rfl, rfl⟩)
    | (go_at_call 56; (with_reducible refine (lenn _ _ _ _ dn.out _).mono ?_); rintro e w1 ⟨rfl, rfl⟩)
    | (go_at_call 57; (with_reducible refine (lend _ _ _ _ dd.out _).mono ?_); rintro e w1 ⟨rfl, rfl⟩))
    show bodyPost _ _ _ Exit.ret _ _
    go_ret
    exact ⟨rfl, HB.out⟩
  have d7 : Hid (decide (L.n7 = 0) = true) := by simp [Hid, k7]
  replace k7 := Lib.hid k7
  by_cases k8 : L.n8 = 0
  case neg =>
    have hq : (decide (nn = 0) && bareL L && decide (nd = 0)) = false := by simp [bareL, k8]
    rw [hq]
    have d8 : Hid (decide (L.n8 = 0) = false) := by simp [Hid, k8]
    replace k8 := Lib.hid k8
    clear hq
    go_enter Tryz.func8, Tryz.ntmps8
    go_wp2_with (first
    | (go_at_call 47; (with_reducible refine (len4 _ _ _ _ d4.out _).mono ?_); rintro e w1 ⟨rfl, rfl⟩)
    | (go_at_call 48; (with_reducible refine (len5 _ _ _ _ d5.out _).mono ?_); rintro e w1 ⟨rfl, rfl⟩)
    | (go_at_call 49; (with_reducible refine (len6 _ _ _ _ d6.out _).mono ?_); rintro e w1 ⟨rfl, rfl⟩)
    | (go_at_call 50; (with_reducible refine (len7 _ _ _ _ d7.out _).mono ?_); rintro e w1 ⟨rfl, rfl⟩)
    | (go_at_call 51; (with_reducible refine (len8 _ _ _ _ d8.out _).mono ?_); rintro e w1 ⟨rfl, rfl⟩)
    | (go_at_call 52; (with_reducible refine (len9 _ _ _ _ d9.out _).mono ?_); rintro e w1 ⟨rfl, rfl⟩)
    | (go_at_call 53; (with_reducible refine (len10 _ _ _ _ d10.out _).mono ?_); rintro e w1 ⟨rfl, rfl⟩)
    | (go_at_call 54; (with_reducible refine (len11 _ _ _ _ d11.out _).mono ?_); rintro e w1 ⟨rfl, rfl⟩)
    | (go_at_call 55; (with_reducible refine (len14 _ _ _ _ d14.out _).mono ?_); rintro e w1 ⟨rfl, rfl⟩)
    | (go_at_call 56; (with_reducible refine (lenn _ _ _ _ dn.out _).mono ?_); rintro e w1 ⟨rfl, rfl⟩)
    | (go_at_call 57; (with_reducible refine (lend _ _ _ _ dd.out _).mono ?_); rintro e w1 ⟨rfl, rfl⟩))
    show bodyPost _ _ _ Exit.ret _ _
    go_ret
    exact ⟨rfl, HB.out⟩
  have d8 : Hid (decide (L.n8 = 0) = true) := by simp [Hid, k8]
  replace k8 := Lib.hid k8
  by_cases k9 : L.n9 = 0
  case neg =>
    have hq : (decide (nn = 0) && bareL L && decide (nd = 0)) = false := by simp [bareL, k9]
    rw [hq]
    have d9 : Hid (decide (L.n9 = 0) = false) := by simp [Hid, k9]
    replace k9 := Lib.hid k9
    clear hq
    go_enter Tryz.func8, Tryz.ntmps8
    go_wp2_with (first
    | (go_at_call 47; (with_reducible refine (len4 _ _ _ _ d4.out _).mono ?_); rintro e w1 ⟨rfl, rfl⟩)
    | (go_at_call 48; (with_reducible refine (len5 _ _ _ _ d5.out _).mono ?_); rintro e w1 ⟨rfl, rfl⟩)
    | (go_at_call 49; (with_reducible refine (len6 _ _ _ _ d6.out _).mono ?_); rintro e w1 ⟨rfl, rfl⟩)
    | (go_at_call 50; (with_reducible refine (len7 _ _ _ _ d7.out _).mono ?_); rintro e w1 ⟨rfl, rfl⟩)
    | (go_at_call 51; (with_reducible refine (len8 _ _ _ _ d8.out _).mono ?_); rintro e w1 ⟨rfl, rfl⟩)
    | (go_at_call 52; (with_reducible refine (len9 _ _ _ _ d9.out _).mono ?_); rintro e w1 ⟨rfl, rfl⟩)
    | (go_at_call 53; (with_reducible refine (len10 _ _ _ _ d10.out _).mono ?_); rintro e w1 ⟨rfl, rfl⟩)
    | (go_at_call 54; (with_reducible refine (len11 _ _ _ _ d11.out _).mono ?_); rintro e w1 ⟨rfl, rfl⟩)
    | (go_at_call 55; (with_reducible refine (len14 _ _ _ _ d14.out _).mono ?_); rintro e w1 ⟨rfl, rfl⟩)
    | (go_at_call 56; (with_reducible refine (lenn _ _ _ _ dn.out _).mono ?_); rintro e w1 ⟨rfl, rfl⟩)
    | (go_at_call 57; (with_reducible refine (lend _ _ _ _ dd.out _).mono ?_); rintro e w1 ⟨rfl, rfl⟩))
    show bodyPost _ _ _ Exit.ret _ _
    go_ret
    exact ⟨rfl, HB.out⟩
  have d9 : Hid (decide (L.n9 = 0) = true) := by simp [Hid, k9]
  replace k9 := Lib.hid k9
  by_cases k10 : L.n10 = 0
  case neg =>
    have hq : (decide (nn = 0) && bareL L && decide (nd = 0)) = false := by simp [bareL, k10]
    rw [hq]
    have d10 : Hid (decide (L.n10 = 0) = false) := by simp [Hid, k10]
    replace k10 := Lib.hid k10
    clear hq
    go_enter Tryz.func8, Tryz.ntmps8
    go_wp2_with (first
    | (go_at_call 47; (with_reducible refine (len4 _ _ _ _ d4.out _).mono ?_); rintro e w1 ⟨rfl, rfl⟩)
    | (go_at_call 48; (with_reducible refine (len5 _ _ _ _ d5.out _).mono ?_); rintro e w1 ⟨rfl, rfl⟩)
    | (go_at_call 49; (with_reducible refine (len6 _ _ _ _ d6.out _).mono ?_); rintro e w1 ⟨rfl, rfl⟩)
    | (go_at_call 50; (with_reducible refine (len7 _ _ _ _ d7.out _).mono ?_); rintro e w1 ⟨rfl, rfl⟩)
    | (go_at_call 51; (with_reducible refine (len8 _ _ _ _ d8.out _).mono ?_); rintro e w1 ⟨rfl, rfl⟩)
    | (go_at_call 52; (with_reducible refine (len9 _ _ _ _ d9.out _).mono ?_); rintro e w1 ⟨rfl, rfl⟩)
    | (go_at_call 53; (with_reducible refine (len10 _ _ _ _ d10.out _).mono ?_); rintro e w1 ⟨rfl, rfl⟩)
    | (go_at_call 54; (with_reducible refine (len11 _ _ _ _ d11.out _).mono ?_); rintro e w1 ⟨rfl, rfl⟩)
    | (go_at_call 55; (with_reducible refine (len14 _ _ _ _ d14.out _).mono ?_); rintro e w1 ⟨rfl, rfl⟩)
    | (go_at_call 56; (with_reducible refine (lenn _ _ _ _ dn.out _).mono ?_); rintro e w1 ⟨rfl, rfl⟩)
    | (go_at_call 57; (with_reducible refine (lend _ _ _ _ dd.out _).mono ?_); rintro e w1 ⟨rfl, rfl⟩))
    show bodyPost _ _ _ Exit.ret _ _
    go_ret
    exact ⟨rfl, HB.out⟩
  have d10 : Hid (decide (L.n10 = 0) = true) := by simp [Hid, k10]
  replace k10 := Lib.hid k10
  by_cases k11 : L.n11 = 0
  case neg =>
    have hq : (decide (nn = 0) && bareL L && decide (nd = 0)) = false := by simp [bareL, k11]
    rw [hq]
    have d11 : Hid (decide (L.n11 = 0) = false) := by simp [Hid, k11]
    replace k11 := Lib.hid k11
    clear hq
    go_enter Tryz.func8, Tryz.ntmps8
    go_wp2_with (first
    | (go_at_call 47; (with_reducible refine (len4 _ _ _ _ d4.out _).mono ?_); rintro e w1 ⟨rfl, rfl⟩)
    | (go_at_call 48; (with_reducible refine (len5 _ _ _ _ d5.out _).mono ?_); rintro e w1 ⟨rfl, rfl⟩)
    | (go_at_call 49; (with_reducible refine (len6 _ _ _ _ d6.out _).mono ?_); rintro e w1 ⟨rfl, rfl⟩)
    | (go_at_call 50; (with_reducible refine (len7 _ _ _ _ d7.out _).mono ?_); rintro e w1 ⟨rfl, rfl⟩)
    | (go_at_call 51; (with_reducible refine (len8 _ _ _ _ d8.out _).mono ?_); rintro e w1 ⟨rfl, rfl⟩)
    | (go_at_call 52; (with_reducible refine (len9 _ _ _ _ d9.out _).mono ?_); rintro e w1 ⟨rfl, rfl⟩)
    | (go_at_call 53; (with_reducible refine (len10 _ _ _ _ d10.out _).mono ?_); rintro e w1 ⟨rfl, rfl⟩)
    | (go_at_call 54; (with_reducible refine (len11 _ _ _ _ d11.out _).mono ?_); rintro e w1 ⟨rfl, rfl⟩)
    | (go_at_call 55; (with_reducible refine (len14 _ _ _ _ d14.out _).mono ?_); rintro e w1 ⟨rfl, rfl⟩)
    | (go_at_call 56; (with_reducible refine (lenn _ _ _ _ dn.out _).mono ?_); rintro e w1 ⟨rfl, rfl⟩)
    | (go_at_call 57; (with_reducible refine (lend _ _ _ _ dd.out _).mono ?_); rintro e w1 ⟨rfl, rfl⟩))
    show bodyPost _ _ _ Exit.ret _ _
    go_ret
    exact ⟨rfl, HB.out⟩
  have d11 : Hid (decide (L.n11 = 0) = true) := by simp [Hid, k11]
  replace k11 := Lib.hid k11
  by_cases k14 : L.n14 = 0
  case neg =>
    have hq : (decide (nn = 0) && bareL L && decide (nd = 0)) = false := by simp [bareL, k14]
    rw [hq]
    have d14 : Hid (decide (L.n14 = 0) = false) := by simp [Hid, k14]
    replace k14 := Lib.hid k14
    clear hq
    go_enter Tryz.func8, Tryz.ntmps8
    go_wp2_with (first
    | (go_at_call 47; (with_reducible refine (len4 _ _ _ _ d4.out _).mono ?_); rintro e w1 ⟨rfl, rfl⟩)
    | (go_at_call 48; (with_reducible refine (len5 _ _ _ _ d5.out _).mono ?_); rintro e w1 ⟨rfl, rfl⟩)
    | (go_at_call 49; (with_reducible refine (len6 _ _ _ _ d6.out _).mono ?_); rintro e w1 ⟨rfl, rfl⟩)
    | (go_at_call 50; (with_reducible refine (len7 _ _ _ _ d7.out _).mono ?_); rintro e w1 ⟨rfl, rfl⟩)
    | (go_at_call 51; (with_reducible refine (len8 _ _ _ _ d8.out _).mono ?_); rintro e w1 ⟨rfl, rfl⟩)
    | (go_at_call 52; (with_reducible refine (len9 _ _ _ _ d9.out _).mono ?_); rintro e w1 ⟨rfl, rfl⟩)
    | (go_at_call 53; (with_reducible refine (len10 _ _ _ _ d10.out _).mono ?_); rintro e w1 ⟨rfl, rfl⟩)
    | (go_at_call 54; (with_reducible refine (len11 _ _ _ _ d11.out _).mono ?_); rintro e w1 ⟨rfl, rfl⟩)
    | (go_at_call 55; (with_reducible refine (len14 _ _ _ _ d14.out _).mono ?_); rintro e w1 ⟨rfl, rfl⟩)
    | (go_at_call 56; (with_reducible refine (lenn _ _ _ _ dn.out _).mono ?_); rintro e w1 ⟨rfl, rfl⟩)
    | (go_at_call 57; (with_reducible refine (lend _ _ _ _ dd.out _).mono ?_); rintro e w1 ⟨rfl, rfl⟩))
    show bodyPost _ _ _ Exit.ret _ _
    go_ret
    exact ⟨rfl, HB.out⟩
  have d14 : Hid (decide (L.n14 = 0) = true) := by simp [Hid, k14]
  replace k14 := Lib.hid k14
  by_cases kn : nn = 0
  case neg =>
    have hq : (decide (nn = 0) && bareL L && decide (nd = 0)) = false := by simp [kn]
    rw [hq]
    have dn : Hid (decide (nn = 0) = false) := by simp [Hid, kn]
    replace kn := Lib.hid kn
    clear hq
    go_enter Tryz.func8, Tryz.ntmps8
    go_wp2_with (first
    | (go_at_call 47; (with_reducible refine (len4 _ _ _ _ d4.out _).mono ?_); rintro e w1 ⟨rfl, rfl⟩)
    | (go_at_call 48; (with_reducible refine (len5 _ _ _ _ d5.out _).mono ?_); rintro e w1 ⟨rfl, rfl⟩)
    | (go_at_call 49; (with_reducible refine (len6 _ _ _ _ d6.out _).mono ?_); rintro e w1 ⟨rfl, rfl⟩)
    | (go_at_call 50; (with_reducible refine (len7 _ _ _ _ d7.out _).mono ?_); rintro e w1 ⟨rfl, rfl⟩)
    | (go_at_call 51; (with_reducible refine (len8 _ _ _ _ d8.out _).mono ?_); rintro e w1 ⟨rfl, rfl⟩)
    | (go_at_call 52; (with_reducible refine (len9 _ _ _ _ d9.out _).mono ?_); rintro e w1 ⟨rfl, rfl⟩)
    | (go_at_call 53; (with_reducible refine (len10 _ _ _ _ d10.out _).mono ?_); rintro e w1 ⟨rfl, rfl⟩)
    | (go_at_call 54; (with_reducible refine (len11 _ _ _ _ d11.out _).mono ?_); rintro e w1 ⟨rfl, rfl⟩)
    | (go_at_call 55; (with_reducible refine (len14 _ _ _ _ d14.out _).mono ?_); rintro e w1 ⟨rfl, rfl⟩)
    | (go_at_call 56; (with_reducible refine (lenn _ _ _ _ dn.out _).mono ?_); rintro e w1 ⟨rfl, rfl⟩)
    | (go_at_call 57; (with_reducible refine (lend _ _ _ _ dd.out _).mono ?_); rintro e w1 ⟨rfl, rfl⟩))
    show bodyPost _ _ _ Exit.ret _ _
    go_ret
    exact ⟨rfl, HB.out⟩
  have dn : Hid (decide (nn = 0) = true) := by simp [Hid, kn]
  replace kn := Lib.hid kn
  by_cases kd : nd = 0
  case neg =>
    have hq : (decide (nn = 0) && bareL L && decide (nd = 0)) = false := by simp [bareL, kd]
    rw [hq]
    have dd : Hid (decide (nd = 0) = false) := by simp [Hid, kd]
    replace kd := Lib.hid kd
    clear hq
    go_enter Tryz.func8, Tryz.ntmps8
    go_wp2_with (first
    | (go_at_call 47; (with_reducible refine (len4 _ _ _ _ d4.out _).mono ?_); rintro e w1 ⟨rfl, rfl⟩)
    | (go_at_call 48; (with_reducible refine (len5 _ _ _ _ d5.out _).mono ?_); rintro e w1 ⟨rfl, rfl⟩)
    | (go_at_call 49; (with_reducible refine (len6 _ _ _ _ d6.out _).mono ?_); rintro e w1 ⟨rfl, rfl⟩)
    | (go_at_call 50; (with_reducible refine (len7 _ _ _ _ d7.out _).mono ?_); rintro e w1 ⟨rfl, rfl⟩)
    | (go_at_call 51; (with_reducible refine (len8 _ _ _ _ d8.out _).mono ?_); rintro e w1 ⟨rfl, rfl⟩)
    | (go_at_call 52; (with_reducible refine (len9 _ _ _ _ d9.out _).mono ?_); rintro e w1 ⟨rfl, rfl⟩)
    | (go_at_call 53; (with_reducible refine (len10 _ _ _ _ d10.out _).mono ?_); rintro e w1 ⟨rfl, rfl⟩)
    | (go_at_call 54; (with_reducible refine (len11 _ _ _ _ d11.out _).mono ?_); rintro e w1 ⟨rfl, rfl⟩)
    | (go_at_call 55; (with_reducible refine (len14 _ _ _ _ d14.out _).mono ?_); rintro e w1 ⟨rfl, rfl⟩)
    | (go_at_call 56; (with_reducible refine (lenn _ _ _ _ dn.out _).mono ?_); rintro e w1 ⟨rfl, rfl⟩)
    | (go_at_call 57; (with_reducible refine (lend _ _ _ _ dd.out _).mono ?_); rintro e w1 ⟨rfl, rfl⟩))
    show bodyPost _ _ _ Exit.ret _ _
    go_ret
    exact ⟨rfl, HB.out⟩
  have dd : Hid (decide (nd = 0) = true) := by simp [Hid, kd]
  replace kd := Lib.hid kd
  by_cases kk : L.kind = 0
  case neg =>
    have hq : (decide (nn = 0) && bareL L && decide (nd = 0)) = false := by simp [bareL, kk]
    rw [hq]
    have dk : (L.kind == 0) = false := by simp [kk]
    clear hq
    go_enter Tryz.func8, Tryz.ntmps8
    go_wp2_with (first
    | (go_at_call 47; (with_reducible refine (len4 _ _ _ _ d4.out _).mono ?_); rintro e w1 ⟨rfl, rfl⟩)
    | (go_at_call 48; (with_reducible refine (len5 _ _ _ _ d5.out _).mono ?_); rintro e w1 ⟨rfl, rfl⟩)
    | (go_at_call 49; (with_reducible refine (len6 _ _ _ _ d6.out _).mono ?_); rintro e w1 ⟨rfl, rfl⟩)
    | (go_at_call 50; (with_reducible refine (len7 _ _ _ _ d7.out _).mono ?_); rintro e w1 ⟨rfl, rfl⟩)
    | (go_at_call 51; (with_reducible refine (len8 _ _ _ _ d8.out _).mono ?_); rintro e w1 ⟨rfl, rfl⟩)
    | (go_at_call 52; (with_reducible refine (len9 _ _ _ _ d9.out _).mono ?_); rintro e w1 ⟨rfl, rfl⟩)
    | (go_at_call 53; (with_reducible refine (len10 _ _ _ _ d10.out _).mono ?_); rintro e w1 ⟨rfl, rfl⟩)
    | (go_at_call 54; (with_reducible refine (len11 _ _ _ _ d11.out _).mono ?_); rintro e w1 ⟨rfl, rfl⟩)
    | (go_at_call 55; (with_reducible refine (len14 _ _ _ _ d14.out _).mono ?_); rintro e w1 ⟨rfl, rfl⟩)
    | (go_at_call 56; (with_reducible refine (lenn _ _ _ _ dn.out _).mono ?_); rintro e w1 ⟨rfl, rfl⟩)
    | (go_at_call 57; (with_reducible refine (lend _ _ _ _ dd.out _).mono ?_); rintro e w1 ⟨rfl, rfl⟩))
    show bodyPost _ _ _ Exit.ret _ _
    go_ret
    exact ⟨rfl, HB.out⟩
  have dk : (L.kind == 0) = true := by simp [kk]
  by_cases kf : L.flags = 0
  case neg =>
    have hq : (decide (nn = 0) && bareL L && decide (nd = 0)) = false := by simp [bareL, kf]
    rw [hq]
    have df : (L.flags == 0) = false := by simp [kf]
    clear hq
    go_enter Tryz.func8, Tryz.ntmps8
    go_wp2_with (first
    | (go_at_call 47; (with_reducible refine (len4 _ _ _ _ d4.out _).mono ?_); rintro e w1 ⟨rfl, rfl⟩)
    | (go_at_call 48; (with_reducible refine (len5 _ _ _ _ d5.out _).mono ?_); rintro e w1 ⟨rfl, rfl⟩)
    | (go_at_call 49; (with_reducible refine (len6 _ _ _ _ d6.out _).mono ?_); rintro e w1 ⟨rfl, rfl⟩)
    | (go_at_call 50; (with_reducible refine (len7 _ _ _ _ d7.out _).mono ?_); rintro e w1 ⟨rfl, rfl⟩)
    | (go_at_call 51; (with_reducible refine (len8 _ _ _ _ d8.out _).mono ?_); rintro e w1 ⟨rfl, rfl⟩)
    | (go_at_call 52; (with_reducible refine (len9 _ _ _ _ d9.out _).mono ?_); rintro e w1 ⟨rfl, rfl⟩)
    | (go_at_call 53; (with_reducible refine (len10 _ _ _ _ d10.out _).mono ?_); rintro e w1 ⟨rfl, rfl⟩)
    | (go_at_call 54; (with_reducible refine (len11 _ _ _ _ d11.out _).mono ?_); rintro e w1 ⟨rfl, rfl⟩)
    | (go_at_call 55; (with_reducible refine (len14 _ _ _ _ d14.out _).mono ?_); rintro e w1 ⟨rfl, rfl⟩)
    | (go_at_call 56; (with_reducible refine (lenn _ _ _ _ dn.out _).mono ?_); rintro e w1 ⟨rfl, rfl⟩)
    | (go_at_call 57; (with_reducible refine (lend _ _ _ _ dd.out _).mono ?_); rintro e w1 ⟨rfl, rfl⟩))
    show bodyPost _ _ _ Exit.ret _ _
    go_ret
    exact ⟨rfl, HB.out⟩
  have df : (L.flags == 0) = true := by simp [kf]
  have hq : (decide (nn = 0) && bareL L && decide (nd = 0)) = true := by simp [bareL, k4.out, k5.out, k6.out, k7.out, k8.out, k9.out, k10.out, k11.out, k14.out, kd.out, kn.out, kk, kf]
  rw [hq]
  clear hq
  go_enter Tryz.func8, Tryz.ntmps8
  go_wp2_with (first
    | (go_at_call 47; (with_reducible refine (len4 _ _ _ _ d4.out _).mono ?_); rintro e w1 ⟨rfl, rfl⟩)
    | (go_at_call 48; (with_reducible refine (len5 _ _ _ _ d5.out _).mono ?_); rintro e w1 ⟨rfl, rfl⟩)
    | (go_at_call 49; (with_reducible refine (len6 _ _ _ _ d6.out _).mono ?_); rintro e w1 ⟨rfl, rfl⟩)
    | (go_at_call 50; (with_reducible refine (len7 _ _ _ _ d7.out _).mono ?_); rintro e w1 ⟨rfl, rfl⟩)
    | (go_at_call 51; (with_reducible refine (len8 _ _ _ _ d8.out _).mono ?_); rintro e w1 ⟨rfl, rfl⟩)
    | (go_at_call 52; (with_reducible refine (len9 _ _ _ _ d9.out _).mono ?_); rintro e w1 ⟨rfl, rfl⟩)
    | (go_at_call 53; (with_reducible refine (len10 _ _ _ _ d10.out _).mono ?_); rintro e w1 ⟨rfl, rfl⟩)
    | (go_at_call 54; (with_reducible refine (len11 _ _ _ _ d11.out _).mono ?_); rintro e w1 ⟨rfl, rfl⟩)
    | (go_at_call 55; (with_reducible refine (len14 _ _ _ _ d14.out _).mono ?_); rintro e w1 ⟨rfl, rfl⟩)
    | (go_at_call 56; (with_reducible refine (lenn _ _ _ _ dn.out _).mono ?_); rintro e w1 ⟨rfl, rfl⟩)
    | (go_at_call 57; (with_reducible refine (lend _ _ _ _ dd.out _).mono ?_); rintro e w1 ⟨rfl, rfl⟩))
  show bodyPost _ _ _ Exit.ret _ _
  go_ret
  exact ⟨rfl, HB.out⟩

theorem bare_ref (ty xid : Int) (an : Option Addr) (nn cn : Nat) (ad : Option Addr) (nd cd : Nat) (L : Lens) (w : World) : Calls Tryz.prog 9 #[.agg (msgL ty xid (.slice an nn cn) (.slice ad nd cd) L)] w fun e w' => e = .returned (.bool (decide (nn = 0) && bareL L && decide (nd = 0))) ∧ Below w.heap.size w w' := by
  by_cases kn : nn = 0
  case neg =>
    have hq : (decide (nn = 0) && bareL L && decide (nd = 0)) = false := by simp [kn]
    rw [hq]
    have dn : ((nn : Int) == 0) = false := by simp [kn]
    clear hq
    go_enter Tryz.func9, Tryz.ntmps9
    go_wp2_with fail
    show bodyPost _ _ _ Exit.ret _ _
    go_ret
    exact ⟨rfl, below_alloc2 _⟩
  have dn : ((nn : Int) == 0) = true := by simp [kn]
  by_cases kd : nd = 0
  case neg =>
    have hq : (decide (nn = 0) && bareL L && decide (nd = 0)) = false := by simp [bareL, kd]
    rw [hq]
    have dd : ((nd : Int) == 0) = false := by simp [kd]
    clear hq
    go_enter Tryz.func9, Tryz.ntmps9
    go_wp2_with fail
    show bodyPost _ _ _ Exit.ret _ _
    go_ret
    exact ⟨rfl, below_alloc2 _⟩
  have dd : ((nd : Int) == 0) = true := by simp [kd]
  by_cases k4 : L.n4 = 0
  case neg =>
    have hq : (decide (nn = 0) && bareL L && decide (nd = 0)) = false := by simp [bareL, k4]
    rw [hq]
    have d4 : ((L.n4 : Int) == 0) = false := by simp [k4]
    clear hq
    go_enter Tryz.func9, Tryz.ntmps9
    go_wp2_with fail
    show bodyPost _ _ _ Exit.ret _ _
    go_ret
    exact ⟨rfl, below_alloc2 _⟩
  have d4 : ((L.n4 : Int) == 0) = true := by simp [k4]
  by_cases k5 : L.n5 = 0
  case neg =>
    have hq : (decide (nn = 0) && bareL L && decide (nd = 0)) = false := by simp [bareL, k5]
    rw [hq]
    have d5 : ((L.n5 : Int) == 0) = false := by simp [k5]
    clear hq
    go_enter Tryz.func9, Tryz.ntmps9
    go_wp2_with fail
    show bodyPost _ _ _ Exit.ret _ _
    go_ret
    exact ⟨rfl, below_alloc2 _⟩
  have d5 : ((L.n5 : Int) == 0) = true := by simp [k5]
  by_cases k6 : L.n6 = 0
  case neg =>
    have hq : (decide (nn = 0) && bareL L && decide (nd = 0)) = false := by simp [bareL, k6]
    rw [hq]
    have d6 : ((L.n6 : Int) == 0) = false := by simp [k6]
    clear hq
    go_enter Tryz.func9, Tryz.ntmps9
    go_wp2_with fail
    show bodyPost _ _ _ Exit.ret _ _
    go_ret
    exact ⟨rfl, below_alloc2 _⟩
  have d6 : ((L.n6 : Int) == 0) = true := by simp [k6]
  by_cases k7 : L.n7 = 0
  case neg =>
    have hq : (decide (nn = 0) && bareL L && decide (nd = 0)) = false := by simp [bareL, k7]
    rw [hq]
    have d7 : ((L.n7 : Int) == 0) = false := by simp [k7]
    clear hq
    go_enter Tryz.func9, Tryz.ntmps9
    go_wp2_with fail
    show bodyPost _ _ _ Exit.ret _ _
    go_ret
    exact ⟨rfl, below_alloc2 _⟩
  have d7 : ((L.n7 : Int) == 0) = true := by simp [k7]
  by_cases k8 : L.n8 = 0
  case neg =>
    have hq : (decide (nn = 0) && bareL L && decide (nd = 0)) = false := by simp [bareL, k8]
    rw [hq]
    have d8 : ((L.n8 : Int) == 0) = false := by simp [k8]
    clear hq
    go_enter Tryz.func9, Tryz.ntmps9
    go_wp2_with fail
    show bodyPost _ _ _ Exit.ret _ _
    go_ret
    exact ⟨rfl, below_alloc2 _⟩
  have d8 : ((L.n8 : Int) == 0) = true := by simp [k8]
  by_cases k9 : L.n9 = 0
  case neg =>
    have hq : (decide (nn = 0) && bareL L && decide (nd = 0)) = false := by simp [bareL, k9]
    rw [hq]
    have d9 : ((L.n9 : Int) == 0) = false := by simp [k9]
    clear hq
    go_enter Tryz.func9, Tryz.ntmps9
    go_wp2_with fail
    show bodyPost _ _ _ Exit.ret _ _
    go_ret
    exact ⟨rfl, below_alloc2 _⟩
  have d9 : ((L.n9 : Int) == 0) = true := by simp [k9]
  by_cases k10 : L.n10 = 0
  case neg =>
    have hq : (decide (nn = 0) && bareL L && decide (nd = 0)) = false := by simp [bareL, k10]
    rw [hq]
    have d10 : ((L.n10 : Int) == 0) = false := by simp [k10]
    clear hq
    go_enter Tryz.func9, Tryz.ntmps9
    go_wp2_with fail
    show bodyPost _ _ _ Exit.ret _ _
    go_ret
    exact ⟨rfl, below_alloc2 _⟩
  have d10 : ((L.n10 : Int) == 0) = true := by simp [k10]
  by_cases k11 : L.n11 = 0
  case neg =>
    have hq : (decide (nn = 0) && bareL L && decide (nd = 0)) = false := by simp [bareL, k11]
    rw [hq]
    have d11 : ((L.n11 : Int) == 0) = false := by simp [k11]
    clear hq
    go_enter Tryz.func9, Tryz.ntmps9
    go_wp2_with fail
    show bodyPost _ _ _ Exit.ret _ _
    go_ret
    exact ⟨rfl, below_alloc2 _⟩
  have d11 : ((L.n11 : Int) == 0) = true := by simp [k11]
  by_cases kk : L.kind = 0
  case neg =>
    have hq : (decide (nn = 0) && bareL L && decide (nd = 0)) = false := by simp [bareL, kk]
    rw [hq]
    have dk : (L.kind == 0) = false := by simp [kk]
    clear hq
    go_enter Tryz.func9, Tryz.ntmps9
    go_wp2_with fail
    show bodyPost _ _ _ Exit.ret _ _
    go_ret
    exact ⟨rfl, below_alloc2 _⟩
  have dk : (L.kind == 0) = true := by simp [kk]
  by_cases kf : L.flags = 0
  case neg =>
    have hq : (decide (nn = 0) && bareL L && decide (nd = 0)) = false := by simp [bareL, kf]
    rw [hq]
    have df : (L.flags == 0) = false := by simp [kf]
    clear hq
    go_enter Tryz.func9, Tryz.ntmps9
    go_wp2_with fail
    show bodyPost _ _ _ Exit.ret _ _
    go_ret
    exact ⟨rfl, below_alloc2 _⟩
  have df : (L.flags == 0) = true := by simp [kf]
  by_cases k14 : L.n14 = 0
  case neg =>
    have hq : (decide (nn = 0) && bareL L && decide (nd = 0)) = false := by simp [bareL, k14]
    rw [hq]
    have d14 : ((L.n14 : Int) == 0) = false := by simp [k14]
    clear hq
    go_enter Tryz.func9, Tryz.ntmps9
    go_wp2_with fail
    show bodyPost _ _ _ Exit.ret _ _
    go_ret
    exact ⟨rfl, below_alloc2 _⟩
  have d14 : ((L.n14 : Int) == 0) = true := by simp [k14]
  have hq : (decide (nn = 0) && bareL L && decide (nd = 0)) = true := by simp [bareL, kn, kd, k4, k5, k6, k7, k8, k9, k10, k11, kk, kf, k14]
  rw [hq]
  clear hq
  go_enter Tryz.func9, Tryz.ntmps9
  go_wp2_with fail
  show bodyPost _ _ _ Exit.ret _ _
  go_ret
  exact ⟨rfl, below_alloc2 _⟩
end Go.Proofs.YtcebcncpbedkmaaGreat
