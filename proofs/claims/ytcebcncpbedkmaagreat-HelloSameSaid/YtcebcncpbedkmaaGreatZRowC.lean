/- The walks of the document's Bytes, Nums, Value, Fits, Num and of row.number, row.zero: each answers what the plain Lean says. Conditions: the arguments read as lists of numbers; of a value at most eight bytes. 'append(out, make([]T, n)...)', which the translation keeps as one append of n zeros, onto a slice that the call owns. Conditions: T has one cell; n is positive; the bounds that Go itself sets. The walks of the document's Put, of row.Get and of the document's Get: each answers what the plain Lean says. Conditions: the arguments read as lists of numbers. -/
import Derived.Test.YtcebcncpbedkmaaGreatZRowA
import Derived.Test.YtcebcncpbedkmaaGreatZBase
namespace Go.Proofs.YtcebcncpbedkmaaGreat
open Go.RowKit

theorem take_step {xs ys : List Int} {k : Nat} (h1 : k < xs.length) (h2 : k < ys.length) (h : xs.take k = ys.take k) (he : xs.getD k 0 = ys.getD k 0) : xs.take (k + 1) = ys.take (k + 1) := by
  rw [take_snoc h1, take_snoc h2, h, he]
theorem eq_of_take {xs ys : List Int} (hl : xs.length = ys.length) (h : xs.take xs.length = ys.take xs.length) : xs = ys := by
  rwa [List.take_length, hl, List.take_length] at h

set_option maxHeartbeats 400000 in
theorem ref_bytes (v1 v2 : Value) (xs ys : List Int) (w : World) (h1 : Ints .u8 w v1 xs) (h2 : Ints .u8 w v2 ys) :
    Calls Tryz.prog 22 #[v1, v2] w fun e w' => e = .returned (.bool (decide (xs = ys))) ∧ Below w.heap.size w w' := by
  have hle := h1.le
  obtain ⟨a, cap, b, off, rfl, -, -, -, ha, hc⟩ := h1.open
  obtain ⟨a2, cap2, b2, off2, rfl, -, -, -, ha2, hc2⟩ := h2.open
  have H1 := Lib.hid ha
  have H3 := Lib.hid hc
  have H2 := Lib.hid ha2
  have H4 := Lib.hid hc2
  clear ha hc h1 h2 ha2 hc2
  by_cases hl : xs.length = ys.length
  · have e1 : ((xs.length : Int) != (xs.length : Int)) = false := by simp
    rw [← hl]
    have HL := Lib.hid hl
    clear hl
    go_enter Tryz.func22, Tryz.ntmps22
    go_wp2
    go_loopw [4, 5] (fun r i wr => ∃ k q : Nat, k ≤ xs.length ∧ i = .int .i64 k ∧ r = .bool false ∧ wr = w.drewN q ∧ Hid (xs.take k = ys.take k)) (fun _ i _ => xs.length - (intOf i).toNat)
    case atStart => exact ⟨0, 0, by omega, rfl, rfl, rfl, rfl⟩
    case round =>
      obtain ⟨k, q, hk, rfl, rfl, rfl, HT⟩ := hrel
      by_cases hlt : k < xs.length
      · obtain rfl := H1.out (by omega)
        obtain rfl := H2.out (by have := HL.out; omega)
        obtain ⟨x, hx, hcx⟩ := name_cell (H3.out k hlt)
        obtain ⟨y, hy, hcy⟩ := name_cell (H4.out k (by have := HL.out; omega))
        have HX := Lib.hid hx
        have HY := Lib.hid hy
        clear hx hy
        have hlt' : (k : Int) < xs.length := by omega
        by_cases he : x = y
        · subst he
          go_wp2_with fail
          go_quiet (fail)
          go_wp2_with fail
          go_roundw
          case rel => exact ⟨k + 1, q + nq, by omega, by go_num, rfl, rfl, take_step hlt (by have := HL.out; omega) HT.out (HX.out.symm.trans HY.out)⟩
          case measure => simp [intOf]; omega
        · go_wp2_with fail
          go_quiet (fail)
          go_wp2_with fail
          go_ret
          have hne : decide (xs = ys) = false := by
            rw [decide_eq_false_iff_not]
            rintro rfl
            exact he (HX.out.trans HY.out.symm)
          exact ⟨by rw [hne]; rfl, below_drewN (below_drewN (Below.refl _ _) _) _⟩
      · obtain rfl : k = xs.length := by omega
        go_wp2_with fail
        go_ret
        exact ⟨by rw [decide_eq_true (eq_of_take HL.out HT.out)]; rfl, below_drewN (Below.refl _ _) _⟩
  · have hne : decide (xs = ys) = false := by
      rw [decide_eq_false_iff_not]
      rintro rfl
      exact hl rfl
    have HNE := Lib.hid hne
    have hb : ((xs.length : Int) != (ys.length : Int)) = true := by simp; omega
    clear hne
    go_enter Tryz.func22, Tryz.ntmps22
    go_wp2
    go_ret
    exact ⟨by rw [HNE.out]; rfl, Below.refl _ _⟩

set_option maxHeartbeats 400000 in
theorem ref_nums (v1 v2 : Value) (xs ys : List Int) (w : World) (h1 : Ints .u64 w v1 xs) (h2 : Ints .u64 w v2 ys) :
    Calls Tryz.prog 37 #[v1, v2] w fun e w' => e = .returned (.bool (decide (xs = ys))) ∧ Below w.heap.size w w' := by
  have hle := h1.le
  obtain ⟨a, cap, b, off, rfl, -, -, -, ha, hc⟩ := h1.open
  obtain ⟨a2, cap2, b2, off2, rfl, -, -, -, ha2, hc2⟩ := h2.open
  have H1 := Lib.hid ha
  have H3 := Lib.hid hc
  have H2 := Lib.hid ha2
  have H4 := Lib.hid hc2
  clear ha hc h1 h2 ha2 hc2
  by_cases hl : xs.length = ys.length
  · have e1 : ((xs.length : Int) != (xs.length : Int)) = false := by simp
    rw [← hl]
    have HL := Lib.hid hl
    clear hl
    go_enter Tryz.func37, Tryz.ntmps37
    go_wp2
    go_loopw [4, 5] (fun r i wr => ∃ k q : Nat, k ≤ xs.length ∧ i = .int .i64 k ∧ r = .bool false ∧ wr = w.drewN q ∧ Hid (xs.take k = ys.take k)) (fun _ i _ => xs.length - (intOf i).toNat)
    case atStart => exact ⟨0, 0, by omega, rfl, rfl, rfl, rfl⟩
    case round =>
      obtain ⟨k, q, hk, rfl, rfl, rfl, HT⟩ := hrel
      by_cases hlt : k < xs.length
      · obtain rfl := H1.out (by omega)
        obtain rfl := H2.out (by have := HL.out; omega)
        obtain ⟨x, hx, hcx⟩ := name_cell (H3.out k hlt)
        obtain ⟨y, hy, hcy⟩ := name_cell (H4.out k (by have := HL.out; omega))
        have HX := Lib.hid hx
        have HY := Lib.hid hy
        clear hx hy
        have hlt' : (k : Int) < xs.length := by omega
        by_cases he : x = y
        · subst he
          go_wp2_with fail
          go_quiet (fail)
          go_wp2_with fail
          go_roundw
          case rel => exact ⟨k + 1, q + nq, by omega, by go_num, rfl, rfl, take_step hlt (by have := HL.out; omega) HT.out (HX.out.symm.trans HY.out)⟩
          case measure => simp [intOf]; omega
        · go_wp2_with fail
          go_quiet (fail)
          go_wp2_with fail
          go_ret
          have hne : decide (xs = ys) = false := by
            rw [decide_eq_false_iff_not]
            rintro rfl
            exact he (HX.out.trans HY.out.symm)
          exact ⟨by rw [hne]; rfl, below_drewN (below_drewN (Below.refl _ _) _) _⟩
      · obtain rfl : k = xs.length := by omega
        go_wp2_with fail
        go_ret
        exact ⟨by rw [decide_eq_true (eq_of_take HL.out HT.out)]; rfl, below_drewN (Below.refl _ _) _⟩
  · have hne : decide (xs = ys) = false := by
      rw [decide_eq_false_iff_not]
      rintro rfl
      exact hl rfl
    have HNE := Lib.hid hne
    have hb : ((xs.length : Int) != (ys.length : Int)) = true := by simp; omega
    clear hne
    go_enter Tryz.func37, Tryz.ntmps37
    go_wp2
    go_ret
    exact ⟨by rw [HNE.out]; rfl, Below.refl _ _⟩

theorem Ints.u8 {w : World} {v : Value} {xs : List Int} (h : Ints .u8 w v xs) : U8 xs := fun x hx => by
  have := h.2 x hx
  simp [Lit.wf, IntKind.min, IntKind.max, IntKind.signed, IntKind.bits] at this
  omega
theorem U8.wf {xs : List Int} (h : U8 xs) : ∀ z ∈ xs, (Lit.int .u8 z).wf = true := fun z hz => by
  have := h z hz
  simp [Lit.wf, IntKind.min, IntKind.max, IntKind.signed, IntKind.bits]; omega
theorem U64.wf {xs : List Int} (h : U64 xs) : ∀ z ∈ xs, (Lit.int .u64 z).wf = true := fun z hz => by
  have := h z hz
  simp [Lit.wf, IntKind.min, IntKind.max, IntKind.signed, IntKind.bits]; omega

theorem val_step {xs : List Int} {k : Nat} (hk : k < xs.length) : valL (xs.take (k + 1)) = valL (xs.take k) * 256 + xs.getD k 0 := by
  rw [take_snoc hk, valL_snoc]
theorem val_take_lt {xs : List Int} {k : Nat} (hu : U8 xs) (hk : k ≤ 7) : 0 ≤ valL (xs.take k) ∧ valL (xs.take k) ≤ 72057594037927935 := by
  have h := valL_bd (b := xs.take k) (fun z hz => hu z (List.mem_of_mem_take hz))
  refine ⟨h.1, ?_⟩
  have hl : (xs.take k).length ≤ 7 := by rw [List.length_take]; omega
  have : (256 : Int) ^ (xs.take k).length ≤ 256 ^ 7 := by
    have := Nat.pow_le_pow_right (n := 256) (by omega) hl
    have h' : ((256 ^ (xs.take k).length : Nat) : Int) ≤ ((256 ^ 7 : Nat) : Int) := Int.ofNat_le.2 this
    simpa [Int.natCast_pow] using h'
  have e7 : (256 : Int) ^ 7 = 72057594037927936 := by decide
  omega

theorem or_byte {S x : Int} (h0 : 0 ≤ S) (h1 : S ≤ 72057594037927935) (h2 : 0 ≤ x) (h3 : x < 256) : bits .or .u64 (S * 256) x = S * 256 + x := by
  rw [u64_or _ _ (by omega) (by omega) h2 (by omega)]
  have := nat_join8 (S * 256).toNat x.toNat (by omega) (by omega)
  omega

set_option maxRecDepth 100000 in
set_option maxHeartbeats 400000 in
theorem row_number (v : Value) (xs : List Int) (w : World) (h : Ints .u8 w v xs) (h8 : xs.length ≤ 8) :
    Calls Tryz.prog 129 #[v] w fun e w' => e = .returned (.int .u64 (valL xs)) ∧ w = w' := by
  have hu := Lib.hid h.u8
  obtain ⟨a, cap, b, off, rfl, -, -, -, ha, hc⟩ := h.open
  have H1 := Lib.hid ha
  have H3 := Lib.hid hc
  clear ha hc h
  go_enter Tryz.func129, Tryz.ntmps129
  go_wp2
  go_loop [2, 7] (fun r i => ∃ k : Nat, k ≤ xs.length ∧ i = .int .i64 k ∧ r = .int .u64 (valL (xs.take k))) (fun _ i => xs.length - (intOf i).toNat)
  case atStart => exact ⟨0, by omega, rfl, rfl⟩
  case round =>
    obtain ⟨k, hk, rfl, rfl⟩ := hrel
    by_cases hlt : k < xs.length
    · obtain rfl := H1.out (by omega)
      obtain ⟨x, hx, hcx⟩ := name_cell (H3.out k hlt)
      have hxb := hu.out _ (getD_mem hlt)
      rw [← hx] at hxb
      obtain ⟨hx0, hx1⟩ := hxb
      have HS := Lib.hid (val_step hlt)
      rw [← hx] at HS
      obtain ⟨hv0, hv1⟩ := val_take_lt hu.out (show k ≤ 7 by omega)
      generalize valL (xs.take k) = S at *
      clear hx
      have HOB := Lib.hid (or_byte hv0 hv1 hx0 hx1)
      go_wp2
      go_round
      case rel => exact ⟨k + 1, by omega, by go_num, congrArg (Value.int .u64) (HOB.out.trans HS.out.symm)⟩
      case measure => simp [intOf]; omega
    · obtain rfl : k = xs.length := by omega
      go_wp2
      go_ret
      exact ⟨by simp, rfl⟩

set_option maxHeartbeats 400000 in
theorem row_zero (v : Value) (xs : List Int) (w : World) (h : Ints .u8 w v xs) :
    Calls Tryz.prog 130 #[v] w fun e w' => e = .returned (.bool (xs.all (· == 0))) ∧ w = w' := by
  have hle := h.le
  obtain ⟨a, cap, b, off, rfl, -, -, -, ha, hc⟩ := h.open
  have H1 := Lib.hid ha
  have H3 := Lib.hid hc
  clear ha hc h
  go_enter Tryz.func130, Tryz.ntmps130
  go_wp2
  go_loop [2, 7] (fun r i => ∃ k : Nat, k ≤ xs.length ∧ i = .int .i64 k ∧ r = .bool false ∧ Hid ((xs.take k).all (· == 0) = true)) (fun _ i => xs.length - (intOf i).toNat)
  case atStart => exact ⟨0, by omega, rfl, rfl, by simp [Hid]⟩
  case round =>
    obtain ⟨k, hk, rfl, rfl, HT⟩ := hrel
    by_cases hlt : k < xs.length
    · obtain rfl := H1.out (by omega)
      obtain ⟨x, hx, hcx⟩ := name_cell (H3.out k hlt)
      have HX := Lib.hid hx
      clear hx
      by_cases hz : x = 0
      · subst hz
        go_wp2
        go_round
        case rel => exact ⟨k + 1, by omega, by go_num, rfl, by
          have h1 := HT.out
          show (xs.take (k + 1)).all (· == 0) = true
          rw [take_snoc hlt, List.all_append, h1, ← HX.out]; rfl⟩
        case measure => simp [intOf]; omega
      · have hz' : (x != 0) = true := by simp; omega
        go_wp2
        go_ret
        have hf : xs.all (· == 0) = false := by
          rw [← Bool.not_eq_true]; intro hh
          have := List.all_eq_true.1 hh _ (getD_mem hlt)
          rw [← HX.out] at this
          exact hz (by simpa using this)
        exact ⟨by rw [hf]; rfl, rfl⟩
    · obtain rfl : k = xs.length := by omega
      have hf : xs.all (· == 0) = true := by have := HT.out; rwa [List.take_length] at this
      have HF := Lib.hid hf
      clear hf
      go_wp2
      go_ret
      exact ⟨by rw [HF.out]; rfl, rfl⟩

theorem rep_get {m j : Nat} (h : j < m) (rest : List Int) : ((List.replicate m 0 ++ rest).map (Value.int .u8))[j]? = some (.int .u8 0) := by
  rw [List.getElem?_map, List.getElem?_append_left (by simpa using h)]
  simp [h]
theorem rep_set {m : Nat} (h : 0 < m) (rest : List Int) (z : Int) : ((List.replicate m 0 ++ rest).map (Value.int .u8)).set (m - 1) (.int .u8 z) = (List.replicate (m - 1) 0 ++ z :: rest).map (Value.int .u8) := by
  obtain ⟨m, rfl⟩ : ∃ m', m = m' + 1 := ⟨m - 1, by omega⟩
  simp only [Nat.add_sub_cancel]
  rw [List.replicate_succ']
  simp

end Go.Proofs.YtcebcncpbedkmaaGreat
namespace Go.Proofs.YtcebcncpbedkmaaGreat
open Go.RowKit

theorem zeroCells_one (z : Value) (n : Nat) : Builtin.zeroCells #[z] n = (List.replicate n z).toArray := by
  apply Array.ext'
  have h : (Builtin.zeroCells #[z] n).toList = (List.range n).map (fun i => (#[z] : Array Value)[i % 1]!) := by
    simp [Builtin.zeroCells]
  rw [h]
  apply List.ext_getElem?
  intro j
  by_cases hj : j < n
  · simp [hj, Nat.mod_one]
  · simp [hj]

section
variable {P : Program} (w : World)

theorem run_append_zeros (base : Nat) (t xt ty e : TypeId) (kk : IntKind) (i : TypeInfo) (z : Value) (bytes : Nat) (ht : P.underlying t = some (.slice e)) (hxt : P.underlying xt = some (.int kk)) (hi : P.info? e = some i) (hz : i.zero = some z)
    (hsize : i.size = 1) (hby : i.bytes = bytes) (hz1 : z.cells = #[z]) (hone : z.oneCell' = true)
    (v : Value) (n : Nat) (xs : List Value) (hown : w.ownsRow base e 1 v n xs) (m : Nat) (hm : 0 < m)
    (h63 : n + m ≤ maxLen) (hbytes : (n + m) * bytes ≤ 140737488355328) (hbase : base ≤ w.heap.size) :
    ∃ v' w', (Builtin.append_ #[t, xt] ty #[v, .int .i64 (m : Int)]).run P w = .ok v' w' ∧ w'.ownsRow base e 1 v' (n + m) (xs ++ List.replicate m z) ∧ w.grownBy w' v.ownBlock := by
  subst hby
  have hsmall : n + m ≤ 9223372036854775807 := by simp only [maxLen] at h63; omega
  have hlen : (xs ++ List.replicate m z).length = (n + m) * 1 := by rw [List.length_append, hown.1, List.length_replicate]; omega
  have hwrap : IntKind.i64.wrap (m : Int) = m := by rw [IntKind.wrap_i64]; omega
  have hb2 : (m : Int) * (i.bytes : Int) ≤ 281474976710656 := by
    have h1 : m * i.bytes ≤ (n + m) * i.bytes := Nat.mul_le_mul_right _ (by omega)
    have h2 : m * i.bytes ≤ 281474976710656 := by omega
    have h3 : ((m * i.bytes : Nat) : Int) ≤ 281474976710656 := by omega
    rwa [Int.natCast_mul] at h3
  have hb3 : ¬ (281474976710656 < (m : Int) * (i.bytes : Int)) := by omega
  have hneg : ¬ ((m : Int) < 0) := by omega
  have hm0 : m ≠ 0 := by omega
  have grown : ∀ (old : Nat), old < n + m → ∀ (row : Option Nat),
      (w.drew.alloc (.cells (xs.toArray ++ (List.replicate m z).toArray ++ Builtin.zeroCells z.cells (grownCap w (n + m) old e - (n + m))) e)).ownsRow base e 1
        (.slice (some ⟨w.heap.size, 0, none⟩) (n + m) (grownCap w (n + m) old e)) (n + m) (xs ++ List.replicate m z) ∧
      w.grownBy (w.drew.alloc (.cells (xs.toArray ++ (List.replicate m z).toArray ++ Builtin.zeroCells z.cells (grownCap w (n + m) old e - (n + m))) e)) row := by
    intro old ho row
    have hge := grownCap_ge w (n + m) old e
    have hcm : grownCap w (n + m) old e ≤ maxLen := grownCap_le_maxLen w (n + m) old e h63
    refine ⟨⟨hlen, .inr ⟨w.heap.size, _, _, rfl, hbase, heap_alloc_new w.drew _, hge, hcm, ?_, ?_⟩⟩, ⟨rfl, rfl, rfl, by simp, fun k hk _ => heap_alloc_old w.drew _ hk⟩⟩
    · have h1 := hown.1
      simp only [Array.size_append, List.size_toArray, size_zeroCells, hz1, h1, List.length_replicate]
      simp
      omega
    · simp only [Array.toList_append, List.append_assoc]
      rw [← List.append_assoc, ← hlen]
      exact List.take_left
  rcases hown.2 with ⟨rfl, rfl⟩ | ⟨g, cap, cur, rfl, hbg, hg, hnc, hcm, hcs, htake⟩
  · have hx : xs = [] := List.eq_nil_of_length_eq_zero (by simpa using hown.1)
    subst hx
    have h48' : ¬ (281474976710656 < Builtin.nextslicecap m 0 * i.bytes) := by
      have := growslice_fits (need := 0 + m) (old := 0) (by omega) hbytes
      simp only [Nat.zero_add] at this
      omega
    have h63' : ¬ (9223372036854775807 < (m : Int)) := by omega
    have hgr := grown 0 (by omega) (Value.ownBlock (.slice none 0 0))
    simp only [Nat.zero_add, List.nil_append] at hgr ⊢
    refine ⟨_, _, ?_, hgr.1, hgr.2⟩
    simp [Builtin.append_, run_underlying ht, run_underlying hxt, sizeOf, typeInfo, zeroValue, hi, hz, hsize, asInt, asIntOf, hwrap, hneg, hb3, hm0, h63', h48', Question.forced, run_firstCells_none, newRow, grownCap, zeroCells_one, hz1]
  · by_cases hroom : n + m ≤ cap
    · have hst := run_storeCells_at P g n e (List.replicate m z) 0 cur w hg (by simp; omega) (by intro u hu; rw [List.eq_of_mem_replicate hu]; exact hone)
      simp only [Nat.add_zero] at hst
      refine ⟨.slice (some ⟨g, 0, none⟩) (n + m) cap, w.setRow g (cur.toList.take n ++ List.replicate m z ++ cur.toList.drop (n + m)).toArray, ?_, ⟨hlen, .inr ⟨g, cap, _, rfl, hbg, setRow_heap w g cur _ e _ hg, hroom, hcm, ?_, ?_⟩⟩, ⟨rfl, rfl, rfl, by simp, fun k _ hk => setRow_other w g k _ (fun e => hk (by simp [Value.ownBlock, e]))⟩⟩
      · simp [Builtin.append_, run_underlying ht, run_underlying hxt, sizeOf, typeInfo, zeroValue, hi, hz, hsize, asInt, asIntOf, hwrap, hneg, hb3, hm0, hroom, Addr.add_lit, zeroCells_one, hz1, hst]
      · simp only [List.size_toArray, List.length_append, List.length_take, List.length_drop, List.length_replicate, Array.length_toList]
        omega
      · rw [Nat.mul_one] at htake
        rw [htake, ← hlen]
        exact List.take_left
    · have holds : ∀ j u, xs[j]? = some u → w.cell? ((⟨g, 0, none⟩ : Addr).add j) = some u := hown.cells (g := g) rfl
      have hfo := run_firstCells_some (P := P) w.drew 1 n ⟨g, 0, none⟩ n cap xs hown.1 (by simpa using holds)
      have h48' : ¬ (281474976710656 < Builtin.nextslicecap (n + m) cap * i.bytes) := by
        have := growslice_fits (need := n + m) (old := cap) (by omega) hbytes
        omega
      have h63' : ¬ (9223372036854775807 < ((n : Int) + (m : Int))) := by omega
      have hgr := grown cap (by omega) (Value.ownBlock (.slice (some ⟨g, 0, none⟩) n cap))
      refine ⟨_, _, ?_, hgr.1, hgr.2⟩
      simp [Builtin.append_, run_underlying ht, run_underlying hxt, sizeOf, typeInfo, zeroValue, hi, hz, hsize, asInt, asIntOf, hwrap, hneg, hb3, hm0, hroom, h63', h48', Question.forced, hfo, newRow, grownCap, zeroCells_one, hz1]
end

theorem wpList_append_zeros {P : Program} {w : World} {ops : Array Oper} {rest : List Oper} {o : Oper} {a : Act} {Q : Exit → Act → World → Prop} (hgd : o.guard = none) (s x : Operand) (t xt : TypeId)
    (ho : o.op = .call { callee := .builtin .append, args := #[s, x], argTypes := #[t, xt] })
    (base : Nat) (e : TypeId) (kk : IntKind) (z : Value) (bytes : Nat) (ht : P.underlying t = some (.slice e)) (hxt : P.underlying xt = some (.int kk)) (hinfo : (P.info? e).map (fun i => (i.zero, i.size, i.bytes)) = some (some z, 1, bytes))
    (hz1 : z.cells = #[z]) (hone : z.oneCell' = true)
    (v : Value) (n : Nat) (xs : List Value) (hs : a.eval s = v) (hown : w.ownsRow base e 1 v n xs) (m : Nat) (M : Int) (hx : a.eval x = .int .i64 M) (hM : M = (m : Int)) (hm : 0 < m)
    (h63 : n + m ≤ maxLen) (hbytes : (n + m) * bytes ≤ 140737488355328) (hbase : base ≤ w.heap.size)
    (h : ∀ v' w', w'.ownsRow base e 1 v' (n + m) (xs ++ List.replicate m z) → w.grownBy w' v.ownBlock → wpList P ops Q rest (a.put o.dst v') w') :
    wpList P ops Q (o :: rest) a w := by
  subst hM
  obtain ⟨i, hi, hz, hsize, hby⟩ := info_parts hinfo
  refine wpList_plain hgd fun K hK => ?_
  obtain ⟨v', w', hr, h2, h3⟩ := run_append_zeros (P := P) w base t xt o.type e kk i z bytes ht hxt hi hz hsize hby hz1 hone v n xs hown m hm h63 hbytes hbase
  unfold Oper.wp execOp
  simp only [ho, resolve, invoke, builtin, Sem.run_bind, Sem.run_pure, Result.andThen_ok, List.map_toArray, List.map_cons, List.map_nil, hs, hx, hr]
  exact hK _ _ (h v' w' h2 h3)

theorem run_append_sl {P : Program} (w : World) (base : Nat) (t ty e : TypeId) (z : Value) (size bytes : Nat) (ht : P.underlying t = some (.slice e)) (hinfo : (P.info? e).map (fun i => (i.zero, i.size, i.bytes)) = some (some z, size, bytes))
    (hzs : z.cells.size = size) (hsz : 0 < size)
    (v : Value) (n : Nat) (xs : List Value) (hown : w.ownsRow base e size v n xs)
    (xv : Value) (m : Nat) (news : List Value) (hl : news.length = m * size) (hsl : Sl w xv m news) (h1 : ∀ u ∈ news, u.oneCell' = true)
    (h63 : n + m ≤ maxLen) (hbytes : (n + m) * bytes ≤ 140737488355328) (hbase : base ≤ w.heap.size) :
    ∃ v' w', (Builtin.append_ #[t, t] ty #[v, xv]).run P w = .ok v' w' ∧ w'.ownsRow base e size v' (n + m) (xs ++ news) ∧ w.grownBy w' v.ownBlock ∧ (v'.ownBlock = v.ownBlock ∨ v'.ownBlock = some w.heap.size) := by
  obtain ⟨i, hi, hz, hsize, hby⟩ := info_parts hinfo
  obtain ⟨ad, cap, b, off, rfl, hmc, _, h0, hpos, hat⟩ := hsl
  cases ad with
  | none =>
    have hc0 := h0 rfl
    subst hc0
    have hm : m = 0 := by omega
    subst hm
    have hn : news = [] := List.eq_nil_of_length_eq_zero (by simpa using hl)
    subst hn
    exact ⟨v, w, run_append_owned_none (P := P) (w := w) base t ty e i size ht hi v n xs hown, by simpa using hown, World.grownBy.refl _ _, .inl rfl⟩
  | some ad =>
    obtain ⟨v', w', hr, h2, h3, _, h5⟩ := run_append_own_at (P := P) w base t ty e i z size bytes ht hi hz hsize hby hzs hsz v n xs hown ad m cap news hl (by
      intro j u hu
      have hj := (List.getElem?_eq_some_iff.1 hu).1
      have hm : 0 < m := by
        rcases Nat.eq_zero_or_pos m with h' | h'
        · subst h'; simp at hl; subst hl; simp at hj
        · exact h'
      obtain rfl := Option.some.inj (hpos hm)
      have ea : (⟨b, off, none⟩ : Addr).add j = ⟨b, off + j, none⟩ := by unfold Addr.add; split <;> simp_all
      rw [ea, hat j hj]
      simp [List.getD, hu]) h1 h63 hbytes hbase
    exact ⟨v', w', hr, h2, h3, h5⟩

theorem step_append_sl {P : Program} {w : World} {ops : Array Oper} {o : Oper} {a : Act} {K : Act → World → Prop} {Q : Exit → Act → World → Prop} {E : Prop} (hgd : o.guard = none) (s x : Operand) (t : TypeId)
    (ho : o.op = .call { callee := .builtin .append, args := #[s, x], argTypes := #[t, t] })
    (base : Nat) (e : TypeId) (z : Value) (size bytes : Nat) (ht : P.underlying t = some (.slice e)) (hinfo : (P.info? e).map (fun i => (i.zero, i.size, i.bytes)) = some (some z, size, bytes))
    (hzs : z.cells.size = size) (hsz : 0 < size)
    (v : Value) (n : Nat) (xs : List Value) (hs : a.eval s = v) (hown : w.ownsRow base e size v n xs)
    (xv : Value) (m : Nat) (news : List Value) (hx : a.eval x = xv) (hl : news.length = m * size) (hsl : Sl w xv m news) (h1 : ∀ u ∈ news, u.oneCell' = true)
    (h63 : n + m ≤ maxLen) (hbytes : (n + m) * bytes ≤ 140737488355328) (hbase : base ≤ w.heap.size)
    (h : ∀ v' w', w'.ownsRow base e size v' (n + m) (xs ++ news) → w.grownBy w' v.ownBlock → K (a.put o.dst v') w') :
    if Region.wanted o (yielded ops a.tmps) = true then Oper.wp P o a w K Q else E := by
  have hw : Region.wanted o (yielded ops a.tmps) = true := by simp [Region.wanted, hgd]
  rw [if_pos hw]
  obtain ⟨v', w', hr, h2, h3, _⟩ := run_append_sl (P := P) w base t o.type e z size bytes ht hinfo hzs hsz v n xs hown xv m news hl hsl h1 h63 hbytes hbase
  unfold Oper.wp execOp
  simp only [ho, resolve, invoke, builtin, Sem.run_bind, Sem.run_pure, Result.andThen_ok, List.map_toArray, List.map_cons, List.map_nil, hs, hx, hr]
  exact h v' w' h2 h3

end Go.Proofs.YtcebcncpbedkmaaGreat
namespace Go.Proofs.YtcebcncpbedkmaaGreat
open Go.RowKit

theorem quiet_eq {P : Program} {f : FuncId} {args : Array Value} {w : World} {n : Nat} {v : Value} (h : Calls P f args (w.drewN n) fun e w' => e = .returned v ∧ w.drewN n = w') : Calls P f args (w.drewN n) fun e w'' => e = .returned v ∧ ∃ m, w'' = w.drewN m :=
  h.mono fun _ _ ⟨he, hm⟩ => ⟨he, n, hm.symm⟩
theorem ints_one (k : IntKind) (zs : List Int) : ∀ u ∈ zs.map (Value.int k), u.oneCell' = true := ints_oneCell k zs

end Go.Proofs.YtcebcncpbedkmaaGreat
