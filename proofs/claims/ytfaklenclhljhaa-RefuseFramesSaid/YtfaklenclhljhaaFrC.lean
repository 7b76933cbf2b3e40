/- Why of any message: the walks of refuse.Why and of the document's. Conditions: none beyond each lemma's own. -/
import Derived.Test.YtfaklenclhljhaaFrB
import Derived.Test.YtfaklenclhljhaaTail
namespace Go.Proofs.Ytfaklenclhljhaa
open Go.RowKit
set_option maxRecDepth 100000
set_option maxHeartbeats 4000000

/-- The error that a message tells, of its type and its numbers. -/
def whyS (ty : Int) (nums : List Int) : Int × Bool :=
  if ty = 1 ∧ nums.length = 2 ∧ nums.getD 0 0 ≤ 1000 ∧ nums.getD 1 0 ≤ 1000 then makeS (nums.getD 0 0) (nums.getD 1 0) else (0, false)

/-- What a statement that reads a message's two numbers reads, at w'. -/
abbrev HeldY (w9 w' : World) (p b off cap : Nat) (x y : Int) : Prop :=
  w'.cell? ⟨p, 2, none⟩ = some (.slice (some ⟨b, off, none⟩) 2 cap) ∧ w'.cell? ⟨b, off, none⟩ = some (.int .u64 x) ∧ w'.cell? ⟨b, off + 1, none⟩ = some (.int .u64 y) ∧ Below w9.heap.size w9 w'
theorem HeldY.next {w9 w w' : World} {p b off cap : Nat} {x y : Int} (h : HeldY w9 w p b off cap x y) (hb : Below w.heap.size w w') : HeldY w9 w' p b off cap x y := by
  have k : ∀ {a : Addr} {v : Value}, w.cell? a = some v → w'.cell? a = some v := fun {a v} h => (hb.cell (World.block_lt_of_cell? _ _ h)).trans h
  exact ⟨k h.1, k h.2.1, k h.2.2.1, h.2.2.2.trans (hb.mono h.2.2.2.size)⟩
theorem HeldY.bel {w9 w : World} {p b off cap : Nat} {x y : Int} (h : HeldY w9 w p b off cap x y) : Below w9.heap.size w9 w := h.2.2.2

theorem why_go_a (ty xid : Int) (v : Value) (nums : List Int) (ad : Option Addr) (nd cd : Nat) (L : Lens) (w : World) (h : Ints .u64 w v nums) (h0 : ¬ ty = 1) :
    Calls Try.prog 27 #[.agg (msgL ty xid v (.slice ad nd cd) L)] w fun e w' => e = .returned (.tuple #[.int .i64 (whyS ty nums).1, .bool (whyS ty nums).2]) ∧ Below w.heap.size w w' := by
  have hq : whyS ty nums = (0, false) := if_neg (by omega)
  rw [hq]
  clear hq
  obtain ⟨a, cap, b, off, rfl, -, -, -, -, -⟩ := h.open
  have HBx : Hid (Below w.heap.size w (w.alloc (.cells (msgL ty xid (.slice a nums.length cap) (.slice ad nd cd) L) 35))) := below_alloc2 _
  have HHm := heap_alloc_new w (.cells (msgL ty xid (.slice a nums.length cap) (.slice ad nd cd) L) 35)
  have c0 := cell_heap HHm 0
  have c2 := cell_heap HHm 2
  clear HHm
  have e0 : (ty != 1) = true := by simpa using h0
  clear h0 h
  go_enter Try.func27, Try.ntmps27
  go_wp2_with go_quiet (fail)
  go_ret2
  exact ⟨rfl, below_drewN HBx.out _⟩

theorem why_go_b (ty xid : Int) (v : Value) (nums : List Int) (ad : Option Addr) (nd cd : Nat) (L : Lens) (w : World) (h : Ints .u64 w v nums) (h0 : ty = 1) (h1 : ¬ nums.length = 2) :
    Calls Try.prog 27 #[.agg (msgL ty xid v (.slice ad nd cd) L)] w fun e w' => e = .returned (.tuple #[.int .i64 (whyS ty nums).1, .bool (whyS ty nums).2]) ∧ Below w.heap.size w w' := by
  have hq : whyS ty nums = (0, false) := if_neg (by omega)
  rw [hq]
  clear hq
  obtain ⟨a, cap, b, off, rfl, -, -, -, -, -⟩ := h.open
  have HBx : Hid (Below w.heap.size w (w.alloc (.cells (msgL ty xid (.slice a nums.length cap) (.slice ad nd cd) L) 35))) := below_alloc2 _
  have HHm := heap_alloc_new w (.cells (msgL ty xid (.slice a nums.length cap) (.slice ad nd cd) L) 35)
  have c0 := cell_heap HHm 0
  have c2 := cell_heap HHm 2
  clear HHm
  have e0 : (ty != 1) = false := by simpa using h0
  have e1 : ((nums.length : Int) != 2) = true := by simp; omega
  clear h0 h1 h
  go_enter Try.func27, Try.ntmps27
  go_wp2_with go_quiet (fail)
  go_ret2
  exact ⟨rfl, below_drewN HBx.out _⟩

theorem why_go_c (ty xid : Int) (v : Value) (nums : List Int) (ad : Option Addr) (nd cd : Nat) (L : Lens) (w : World) (h : Ints .u64 w v nums) (h0 : ty = 1) (h1 : nums.length = 2) (h2 : 1000 < nums.getD 0 0) :
    Calls Try.prog 27 #[.agg (msgL ty xid v (.slice ad nd cd) L)] w fun e w' => e = .returned (.tuple #[.int .i64 (whyS ty nums).1, .bool (whyS ty nums).2]) ∧ Below w.heap.size w w' := by
  obtain ⟨x, y, rfl⟩ : ∃ x y, nums = [x, y] := by
    match nums, h1 with
    | [x, y], _ => exact ⟨x, y, rfl⟩
  have hu := h.u64
  have hx := hu x (by simp)
  have hy := hu y (by simp)
  subst h0
  obtain ⟨a, cap, b, off, rfl, -, -, -, ha, hc⟩ := h.open
  obtain rfl := ha (by simp)
  have hbl : b < w.heap.size := World.block_lt_of_cell? _ _ (hc 0 (by simp))
  have HBx : Hid (Below w.heap.size w (w.alloc (.cells (msgL 1 xid (.slice (some ⟨b, off, none⟩) 2 cap) (.slice ad nd cd) L) 35))) := below_alloc2 _
  have HHm := heap_alloc_new w (.cells (msgL 1 xid (.slice (some ⟨b, off, none⟩) 2 cap) (.slice ad nd cd) L) 35)
  have c0 := cell_heap HHm 0
  have c2 := cell_heap HHm 2
  have d0 : (w.alloc (.cells (msgL 1 xid (.slice (some ⟨b, off, none⟩) 2 cap) (.slice ad nd cd) L) 35)).cell? ⟨b, off, none⟩ = some (.int .u64 x) := (HBx.out.cell (p := ⟨b, off, none⟩) hbl).trans (hc 0 (by simp))
  have d1 : (w.alloc (.cells (msgL 1 xid (.slice (some ⟨b, off, none⟩) 2 cap) (.slice ad nd cd) L) 35)).cell? ⟨b, off + 1, none⟩ = some (.int .u64 y) := (HBx.out.cell (p := ⟨b, off + 1, none⟩) hbl).trans (hc 1 (by simp))
  clear HHm h ha hc
  show Calls Try.prog 27 #[.agg (msgL 1 xid (.slice (some ⟨b, off, none⟩) 2 cap) (.slice ad nd cd) L)] w _
  have h2 : 1000 < x := h2
  have hq : whyS 1 [x, y] = (0, false) := if_neg (by simp; omega)
  rw [hq]
  clear hq
  by_cases hxy : x < y
  case pos =>
    go_enter Try.func27, Try.ntmps27
    go_wp2_with go_quiet (fail)
    go_ret2
    exact ⟨rfl, below_drewN HBx.out _⟩
  case neg =>
    go_enter Try.func27, Try.ntmps27
    go_wp2_with go_quiet (fail)
    go_ret2
    exact ⟨rfl, below_drewN HBx.out _⟩

theorem why_go_d (ty xid : Int) (v : Value) (nums : List Int) (ad : Option Addr) (nd cd : Nat) (L : Lens) (w : World) (h : Ints .u64 w v nums) (h0 : ty = 1) (h1 : nums.length = 2) (h2 : ¬ 1000 < nums.getD 0 0) (h3 : 1000 < nums.getD 1 0) :
    Calls Try.prog 27 #[.agg (msgL ty xid v (.slice ad nd cd) L)] w fun e w' => e = .returned (.tuple #[.int .i64 (whyS ty nums).1, .bool (whyS ty nums).2]) ∧ Below w.heap.size w w' := by
  obtain ⟨x, y, rfl⟩ : ∃ x y, nums = [x, y] := by
    match nums, h1 with
    | [x, y], _ => exact ⟨x, y, rfl⟩
  have hu := h.u64
  have hx := hu x (by simp)
  have hy := hu y (by simp)
  subst h0
  obtain ⟨a, cap, b, off, rfl, -, -, -, ha, hc⟩ := h.open
  obtain rfl := ha (by simp)
  have hbl : b < w.heap.size := World.block_lt_of_cell? _ _ (hc 0 (by simp))
  have HBx : Hid (Below w.heap.size w (w.alloc (.cells (msgL 1 xid (.slice (some ⟨b, off, none⟩) 2 cap) (.slice ad nd cd) L) 35))) := below_alloc2 _
  have HHm := heap_alloc_new w (.cells (msgL 1 xid (.slice (some ⟨b, off, none⟩) 2 cap) (.slice ad nd cd) L) 35)
  have c0 := cell_heap HHm 0
  have c2 := cell_heap HHm 2
  have d0 : (w.alloc (.cells (msgL 1 xid (.slice (some ⟨b, off, none⟩) 2 cap) (.slice ad nd cd) L) 35)).cell? ⟨b, off, none⟩ = some (.int .u64 x) := (HBx.out.cell (p := ⟨b, off, none⟩) hbl).trans (hc 0 (by simp))
  have d1 : (w.alloc (.cells (msgL 1 xid (.slice (some ⟨b, off, none⟩) 2 cap) (.slice ad nd cd) L) 35)).cell? ⟨b, off + 1, none⟩ = some (.int .u64 y) := (HBx.out.cell (p := ⟨b, off + 1, none⟩) hbl).trans (hc 1 (by simp))
  clear HHm h ha hc
  show Calls Try.prog 27 #[.agg (msgL 1 xid (.slice (some ⟨b, off, none⟩) 2 cap) (.slice ad nd cd) L)] w _
  have h2 : ¬ 1000 < x := h2
  have h3 : 1000 < y := h3
  have hq : whyS 1 [x, y] = (0, false) := if_neg (by simp; omega)
  rw [hq]
  clear hq
  have hxy : x < y := by omega
  go_enter Try.func27, Try.ntmps27
  go_wp2_with go_quiet (fail)
  go_ret2
  exact ⟨rfl, below_drewN HBx.out _⟩

theorem why_go_e (ty xid : Int) (v : Value) (nums : List Int) (ad : Option Addr) (nd cd : Nat) (L : Lens) (w : World) (h : Ints .u64 w v nums) (h0 : ty = 1) (h1 : nums.length = 2) (h2 : ¬ 1000 < nums.getD 0 0) (h3 : ¬ 1000 < nums.getD 1 0) :
    Calls Try.prog 27 #[.agg (msgL ty xid v (.slice ad nd cd) L)] w fun e w' => e = .returned (.tuple #[.int .i64 (whyS ty nums).1, .bool (whyS ty nums).2]) ∧ Below w.heap.size w w' := by
  obtain ⟨x, y, rfl⟩ : ∃ x y, nums = [x, y] := by
    match nums, h1 with
    | [x, y], _ => exact ⟨x, y, rfl⟩
  have hu := h.u64
  have hx := hu x (by simp)
  have hy := hu y (by simp)
  subst h0
  obtain ⟨a, cap, b, off, rfl, -, -, -, ha, hc⟩ := h.open
  obtain rfl := ha (by simp)
  have hbl : b < w.heap.size := World.block_lt_of_cell? _ _ (hc 0 (by simp))
  have HBx : Hid (Below w.heap.size w (w.alloc (.cells (msgL 1 xid (.slice (some ⟨b, off, none⟩) 2 cap) (.slice ad nd cd) L) 35))) := below_alloc2 _
  have HHm := heap_alloc_new w (.cells (msgL 1 xid (.slice (some ⟨b, off, none⟩) 2 cap) (.slice ad nd cd) L) 35)
  have c0 := cell_heap HHm 0
  have c2 := cell_heap HHm 2
  have d0 : (w.alloc (.cells (msgL 1 xid (.slice (some ⟨b, off, none⟩) 2 cap) (.slice ad nd cd) L) 35)).cell? ⟨b, off, none⟩ = some (.int .u64 x) := (HBx.out.cell (p := ⟨b, off, none⟩) hbl).trans (hc 0 (by simp))
  have d1 : (w.alloc (.cells (msgL 1 xid (.slice (some ⟨b, off, none⟩) 2 cap) (.slice ad nd cd) L) 35)).cell? ⟨b, off + 1, none⟩ = some (.int .u64 y) := (HBx.out.cell (p := ⟨b, off + 1, none⟩) hbl).trans (hc 1 (by simp))
  clear HHm h ha hc
  show Calls Try.prog 27 #[.agg (msgL 1 xid (.slice (some ⟨b, off, none⟩) 2 cap) (.slice ad nd cd) L)] w _
  have h2 : ¬ 1000 < x := h2
  have h3 : ¬ 1000 < y := h3
  have hq : whyS 1 [x, y] = makeS x y := if_pos (by simp; omega)
  rw [hq]
  clear hq
  have x1 : IntKind.wrap .i64 x = x := wrap_i64 (by omega) (by omega)
  have x2 : IntKind.wrap .i64 y = y := wrap_i64 (by omega) (by omega)
  have wx : (Lit.int .i64 x).wf = true := by simp [Lit.wf, IntKind.min, IntKind.max, IntKind.signed, IntKind.bits]; omega
  have wy : (Lit.int .i64 y).wf = true := by simp [Lit.wf, IntKind.min, IntKind.max, IntKind.signed, IntKind.bits]; omega
  have HMk := fun w => Lib.hid (go_make x y w wx wy)
  by_cases hxy : x < y
  case pos =>
    go_enter Try.func27, Try.ntmps27
    go_wp2_with go_quiet (fail)
    rename Nat => nq
    have k2 : ((w.alloc (.cells (msgL 1 xid (.slice (some ⟨b, off, none⟩) 2 cap) (.slice ad nd cd) L) 35)).drewN nq).cell? ⟨w.heap.size, 2, none⟩ = some (.slice (some ⟨b, off, none⟩) 2 cap) := c2
    have k0 : ((w.alloc (.cells (msgL 1 xid (.slice (some ⟨b, off, none⟩) 2 cap) (.slice ad nd cd) L) 35)).drewN nq).cell? ⟨b, off, none⟩ = some (.int .u64 x) := d0
    have k1 : ((w.alloc (.cells (msgL 1 xid (.slice (some ⟨b, off, none⟩) 2 cap) (.slice ad nd cd) L) 35)).drewN nq).cell? ⟨b, off + 1, none⟩ = some (.int .u64 y) := d1
    have HB9 : Hid (Below w.heap.size w ((w.alloc (.cells (msgL 1 xid (.slice (some ⟨b, off, none⟩) 2 cap) (.slice ad nd cd) L) 35)).drewN nq)) := below_drewN HBx.out nq
    clear c0 c2 d0 d1
    generalize (w.alloc (.cells (msgL 1 xid (.slice (some ⟨b, off, none⟩) 2 cap) (.slice ad nd cd) L) 35)).drewN nq = w9 at k2 k0 k1 HB9 ⊢
    go_wp2_with go_quiet ((go_at_call 69; exact quiet_eq (HMk _).out))
    go_ret2
    exact ⟨rfl, below_drewN HB9.out _⟩
  case neg =>
    go_enter Try.func27, Try.ntmps27
    go_wp2_with go_quiet (fail)
    rename Nat => nq
    have k2 : ((w.alloc (.cells (msgL 1 xid (.slice (some ⟨b, off, none⟩) 2 cap) (.slice ad nd cd) L) 35)).drewN nq).cell? ⟨w.heap.size, 2, none⟩ = some (.slice (some ⟨b, off, none⟩) 2 cap) := c2
    have k0 : ((w.alloc (.cells (msgL 1 xid (.slice (some ⟨b, off, none⟩) 2 cap) (.slice ad nd cd) L) 35)).drewN nq).cell? ⟨b, off, none⟩ = some (.int .u64 x) := d0
    have k1 : ((w.alloc (.cells (msgL 1 xid (.slice (some ⟨b, off, none⟩) 2 cap) (.slice ad nd cd) L) 35)).drewN nq).cell? ⟨b, off + 1, none⟩ = some (.int .u64 y) := d1
    have HB9 : Hid (Below w.heap.size w ((w.alloc (.cells (msgL 1 xid (.slice (some ⟨b, off, none⟩) 2 cap) (.slice ad nd cd) L) 35)).drewN nq)) := below_drewN HBx.out nq
    clear c0 c2 d0 d1
    generalize (w.alloc (.cells (msgL 1 xid (.slice (some ⟨b, off, none⟩) 2 cap) (.slice ad nd cd) L) 35)).drewN nq = w9 at k2 k0 k1 HB9 ⊢
    go_wp2_with go_quiet ((go_at_call 69; exact quiet_eq (HMk _).out))
    go_ret2
    exact ⟨rfl, below_drewN HB9.out _⟩

theorem why_go (ty xid : Int) (v : Value) (nums : List Int) (ad : Option Addr) (nd cd : Nat) (L : Lens) (w : World) (h : Ints .u64 w v nums) :
    Calls Try.prog 27 #[.agg (msgL ty xid v (.slice ad nd cd) L)] w fun e w' => e = .returned (.tuple #[.int .i64 (whyS ty nums).1, .bool (whyS ty nums).2]) ∧ Below w.heap.size w w' := by
  by_cases h0 : ty = 1
  case neg => exact why_go_a ty xid v nums ad nd cd L w h h0
  by_cases h1 : nums.length = 2
  case neg => exact why_go_b ty xid v nums ad nd cd L w h h0 h1
  by_cases h2 : 1000 < nums.getD 0 0
  case pos => exact why_go_c ty xid v nums ad nd cd L w h h0 h1 h2
  by_cases h3 : 1000 < nums.getD 1 0
  · exact why_go_d ty xid v nums ad nd cd L w h h0 h1 h2 h3
  · exact why_go_e ty xid v nums ad nd cd L w h h0 h1 h2 h3

theorem why_ref_a (ty xid : Int) (v : Value) (nums : List Int) (ad : Option Addr) (nd cd : Nat) (L : Lens) (w : World) (h : Ints .u64 w v nums) (h0 : ¬ ty = 1) :
    Calls Try.prog 28 #[.agg (msgL ty xid v (.slice ad nd cd) L)] w fun e w' => e = .returned (.tuple #[.int .i64 (whyS ty nums).1, .bool (whyS ty nums).2]) ∧ Below w.heap.size w w' := by
  have hq : whyS ty nums = (0, false) := if_neg (by omega)
  rw [hq]
  clear hq
  obtain ⟨a, cap, b, off, rfl, -, -, -, -, -⟩ := h.open
  have HBx : Hid (Below w.heap.size w (w.alloc (.cells (msgL ty xid (.slice a nums.length cap) (.slice ad nd cd) L) 35))) := below_alloc2 _
  have HHm := heap_alloc_new w (.cells (msgL ty xid (.slice a nums.length cap) (.slice ad nd cd) L) 35)
  have c0 := cell_heap HHm 0
  have c2 := cell_heap HHm 2
  clear HHm
  have e0 : (ty != 1) = true := by simpa using h0
  clear h0 h
  go_enter Try.func28, Try.ntmps28
  go_wp2_with fail
  go_ret2
  exact ⟨rfl, HBx.out⟩

theorem why_ref_b (ty xid : Int) (v : Value) (nums : List Int) (ad : Option Addr) (nd cd : Nat) (L : Lens) (w : World) (h : Ints .u64 w v nums) (h0 : ty = 1) (h1 : ¬ nums.length = 2) :
    Calls Try.prog 28 #[.agg (msgL ty xid v (.slice ad nd cd) L)] w fun e w' => e = .returned (.tuple #[.int .i64 (whyS ty nums).1, .bool (whyS ty nums).2]) ∧ Below w.heap.size w w' := by
  have hq : whyS ty nums = (0, false) := if_neg (by omega)
  rw [hq]
  clear hq
  obtain ⟨a, cap, b, off, rfl, -, -, -, -, -⟩ := h.open
  have HBx : Hid (Below w.heap.size w (w.alloc (.cells (msgL ty xid (.slice a nums.length cap) (.slice ad nd cd) L) 35))) := below_alloc2 _
  have HHm := heap_alloc_new w (.cells (msgL ty xid (.slice a nums.length cap) (.slice ad nd cd) L) 35)
  have c0 := cell_heap HHm 0
  have c2 := cell_heap HHm 2
  clear HHm
  have e0 : (ty != 1) = false := by simpa using h0
  have e1 : ((nums.length : Int) != 2) = true := by simp; omega
  clear h0 h1 h
  go_enter Try.func28, Try.ntmps28
  go_wp2_with fail
  go_ret2
  exact ⟨rfl, HBx.out⟩

theorem why_ref_c (ty xid : Int) (v : Value) (nums : List Int) (ad : Option Addr) (nd cd : Nat) (L : Lens) (w : World) (h : Ints .u64 w v nums) (h0 : ty = 1) (h1 : nums.length = 2) (h2 : 1000 < nums.getD 0 0) :
    Calls Try.prog 28 #[.agg (msgL ty xid v (.slice ad nd cd) L)] w fun e w' => e = .returned (.tuple #[.int .i64 (whyS ty nums).1, .bool (whyS ty nums).2]) ∧ Below w.heap.size w w' := by
  obtain ⟨x, y, rfl⟩ : ∃ x y, nums = [x, y] := by
    match nums, h1 with
    | [x, y], _ => exact ⟨x, y, rfl⟩
  have hu := h.u64
  have hx := hu x (by simp)
  have hy := hu y (by simp)
  subst h0
  obtain ⟨a, cap, b, off, rfl, -, -, -, ha, hc⟩ := h.open
  obtain rfl := ha (by simp)
  have hbl : b < w.heap.size := World.block_lt_of_cell? _ _ (hc 0 (by simp))
  have HBx : Hid (Below w.heap.size w (w.alloc (.cells (msgL 1 xid (.slice (some ⟨b, off, none⟩) 2 cap) (.slice ad nd cd) L) 35))) := below_alloc2 _
  have HHm := heap_alloc_new w (.cells (msgL 1 xid (.slice (some ⟨b, off, none⟩) 2 cap) (.slice ad nd cd) L) 35)
  have c0 := cell_heap HHm 0
  have c2 := cell_heap HHm 2
  have d0 : (w.alloc (.cells (msgL 1 xid (.slice (some ⟨b, off, none⟩) 2 cap) (.slice ad nd cd) L) 35)).cell? ⟨b, off, none⟩ = some (.int .u64 x) := (HBx.out.cell (p := ⟨b, off, none⟩) hbl).trans (hc 0 (by simp))
  have d1 : (w.alloc (.cells (msgL 1 xid (.slice (some ⟨b, off, none⟩) 2 cap) (.slice ad nd cd) L) 35)).cell? ⟨b, off + 1, none⟩ = some (.int .u64 y) := (HBx.out.cell (p := ⟨b, off + 1, none⟩) hbl).trans (hc 1 (by simp))
  clear HHm h ha hc
  show Calls Try.prog 28 #[.agg (msgL 1 xid (.slice (some ⟨b, off, none⟩) 2 cap) (.slice ad nd cd) L)] w _
  have h2 : 1000 < x := h2
  have hq : whyS 1 [x, y] = (0, false) := if_neg (by simp; omega)
  rw [hq]
  clear hq
  go_enter Try.func28, Try.ntmps28
  go_wp2_with fail
  go_ret2
  exact ⟨rfl, HBx.out⟩

theorem why_ref_d (ty xid : Int) (v : Value) (nums : List Int) (ad : Option Addr) (nd cd : Nat) (L : Lens) (w : World) (h : Ints .u64 w v nums) (h0 : ty = 1) (h1 : nums.length = 2) (h2 : ¬ 1000 < nums.getD 0 0) (h3 : 1000 < nums.getD 1 0) :
    Calls Try.prog 28 #[.agg (msgL ty xid v (.slice ad nd cd) L)] w fun e w' => e = .returned (.tuple #[.int .i64 (whyS ty nums).1, .bool (whyS ty nums).2]) ∧ Below w.heap.size w w' := by
  obtain ⟨x, y, rfl⟩ : ∃ x y, nums = [x, y] := by
    match nums, h1 with
    | [x, y], _ => exact ⟨x, y, rfl⟩
  have hu := h.u64
  have hx := hu x (by simp)
  have hy := hu y (by simp)
  subst h0
  obtain ⟨a, cap, b, off, rfl, -, -, -, ha, hc⟩ := h.open
  obtain rfl := ha (by simp)
  have hbl : b < w.heap.size := World.block_lt_of_cell? _ _ (hc 0 (by simp))
  have HBx : Hid (Below w.heap.size w (w.alloc (.cells (msgL 1 xid (.slice (some ⟨b, off, none⟩) 2 cap) (.slice ad nd cd) L) 35))) := below_alloc2 _
  have HHm := heap_alloc_new w (.cells (msgL 1 xid (.slice (some ⟨b, off, none⟩) 2 cap) (.slice ad nd cd) L) 35)
  have c0 := cell_heap HHm 0
  have c2 := cell_heap HHm 2
  have d0 : (w.alloc (.cells (msgL 1 xid (.slice (some ⟨b, off, none⟩) 2 cap) (.slice ad nd cd) L) 35)).cell? ⟨b, off, none⟩ = some (.int .u64 x) := (HBx.out.cell (p := ⟨b, off, none⟩) hbl).trans (hc 0 (by simp))
  have d1 : (w.alloc (.cells (msgL 1 xid (.slice (some ⟨b, off, none⟩) 2 cap) (.slice ad nd cd) L) 35)).cell? ⟨b, off + 1, none⟩ = some (.int .u64 y) := (HBx.out.cell (p := ⟨b, off + 1, none⟩) hbl).trans (hc 1 (by simp))
  clear HHm h ha hc
  show Calls Try.prog 28 #[.agg (msgL 1 xid (.slice (some ⟨b, off, none⟩) 2 cap) (.slice ad nd cd) L)] w _
  have h2 : ¬ 1000 < x := h2
  have h3 : 1000 < y := h3
  have hq : whyS 1 [x, y] = (0, false) := if_neg (by simp; omega)
  rw [hq]
  clear hq
  go_enter Try.func28, Try.ntmps28
  go_wp2_with fail
  go_ret2
  exact ⟨rfl, HBx.out⟩

theorem why_ref_e (ty xid : Int) (v : Value) (nums : List Int) (ad : Option Addr) (nd cd : Nat) (L : Lens) (w : World) (h : Ints .u64 w v nums) (h0 : ty = 1) (h1 : nums.length = 2) (h2 : ¬ 1000 < nums.getD 0 0) (h3 : ¬ 1000 < nums.getD 1 0) :
    Calls Try.prog 28 #[.agg (msgL ty xid v (.slice ad nd cd) L)] w fun e w' => e = .returned (.tuple #[.int .i64 (whyS ty nums).1, .bool (whyS ty nums).2]) ∧ Below w.heap.size w w' := by
  obtain ⟨x, y, rfl⟩ : ∃ x y, nums = [x, y] := by
    match nums, h1 with
    | [x, y], _ => exact ⟨x, y, rfl⟩
  have hu := h.u64
  have hx := hu x (by simp)
  have hy := hu y (by simp)
  subst h0
  obtain ⟨a, cap, b, off, rfl, -, -, -, ha, hc⟩ := h.open
  obtain rfl := ha (by simp)
  have hbl : b < w.heap.size := World.block_lt_of_cell? _ _ (hc 0 (by simp))
  have HBx : Hid (Below w.heap.size w (w.alloc (.cells (msgL 1 xid (.slice (some ⟨b, off, none⟩) 2 cap) (.slice ad nd cd) L) 35))) := below_alloc2 _
  have HHm := heap_alloc_new w (.cells (msgL 1 xid (.slice (some ⟨b, off, none⟩) 2 cap) (.slice ad nd cd) L) 35)
  have c0 := cell_heap HHm 0
  have c2 := cell_heap HHm 2
  have d0 : (w.alloc (.cells (msgL 1 xid (.slice (some ⟨b, off, none⟩) 2 cap) (.slice ad nd cd) L) 35)).cell? ⟨b, off, none⟩ = some (.int .u64 x) := (HBx.out.cell (p := ⟨b, off, none⟩) hbl).trans (hc 0 (by simp))
  have d1 : (w.alloc (.cells (msgL 1 xid (.slice (some ⟨b, off, none⟩) 2 cap) (.slice ad nd cd) L) 35)).cell? ⟨b, off + 1, none⟩ = some (.int .u64 y) := (HBx.out.cell (p := ⟨b, off + 1, none⟩) hbl).trans (hc 1 (by simp))
  clear HHm h ha hc
  show Calls Try.prog 28 #[.agg (msgL 1 xid (.slice (some ⟨b, off, none⟩) 2 cap) (.slice ad nd cd) L)] w _
  have h2 : ¬ 1000 < x := h2
  have h3 : ¬ 1000 < y := h3
  have hq : whyS 1 [x, y] = makeS x y := if_pos (by simp; omega)
  rw [hq]
  clear hq
  have x1 : IntKind.wrap .i64 x = x := wrap_i64 (by omega) (by omega)
  have x2 : IntKind.wrap .i64 y = y := wrap_i64 (by omega) (by omega)
  have wx : (Lit.int .i64 x).wf = true := by simp [Lit.wf, IntKind.min, IntKind.max, IntKind.signed, IntKind.bits]; omega
  have wy : (Lit.int .i64 y).wf = true := by simp [Lit.wf, IntKind.min, IntKind.max, IntKind.signed, IntKind.bits]; omega
  have HMk := fun w => Lib.hid (ref_make x y w wx wy)
  go_enter Try.func28, Try.ntmps28
  go_wp2_with fail
  have k2 : (w.alloc (.cells (msgL 1 xid (.slice (some ⟨b, off, none⟩) 2 cap) (.slice ad nd cd) L) 35)).cell? ⟨w.heap.size, 2, none⟩ = some (.slice (some ⟨b, off, none⟩) 2 cap) := c2
  clear c0 c2
  generalize w.alloc (.cells (msgL 1 xid (.slice (some ⟨b, off, none⟩) 2 cap) (.slice ad nd cd) L) 35) = w9 at k2 d0 d1 HBx ⊢
  have HS : Hid (HeldY w9 w9 w.heap.size b off cap x y) := ⟨k2, d0, d1, Below.refl _ _⟩
  have HSd : HeldY w9 w9.drew w.heap.size b off cap x y := ⟨k2, d0, d1, below_drewN (Below.refl _ _) 1⟩
  have HS0 : HeldY w9 w9 w.heap.size b off cap x y := HS.out
  clear k2 d0 d1
  go_region_held (fun w' => HeldY w9 w' w.heap.size b off cap x y) (first | assumption | exact HSd | exact HS.out) (first
    | (go_at_call 70; (with_reducible refine (HMk _).out.mono ?_); rintro e w' ⟨rfl, hb⟩; have hS' := HeldY.next (by assumption) hb; clear hb)
    | fail)
  all_goals go_wp2
  all_goals go_ret2
  all_goals exact ⟨rfl, HBx.out.trans ((HeldY.bel (by assumption)).mono HBx.out.size)⟩

theorem why_ref (ty xid : Int) (v : Value) (nums : List Int) (ad : Option Addr) (nd cd : Nat) (L : Lens) (w : World) (h : Ints .u64 w v nums) :
    Calls Try.prog 28 #[.agg (msgL ty xid v (.slice ad nd cd) L)] w fun e w' => e = .returned (.tuple #[.int .i64 (whyS ty nums).1, .bool (whyS ty nums).2]) ∧ Below w.heap.size w w' := by
  by_cases h0 : ty = 1
  case neg => exact why_ref_a ty xid v nums ad nd cd L w h h0
  by_cases h1 : nums.length = 2
  case neg => exact why_ref_b ty xid v nums ad nd cd L w h h0 h1
  by_cases h2 : 1000 < nums.getD 0 0
  case pos => exact why_ref_c ty xid v nums ad nd cd L w h h0 h1 h2
  by_cases h3 : 1000 < nums.getD 1 0
  · exact why_ref_d ty xid v nums ad nd cd L w h h0 h1 h2 h3
  · exact why_ref_e ty xid v nums ad nd cd L w h h0 h1 h2 h3

end Go.Proofs.Ytfaklenclhljhaa
