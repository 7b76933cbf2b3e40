/- tlv.One: its contract. Conditions: the argument reads as bytes, at most 10^9. The walks of tlv.each and of the function that it hands back. Conditions: the argument reads as bytes, at most 10^9; what each round keeps. -/
import Derived.Test.YtcebcncpbedkmaaGreatZTlvD
import Derived.Test.YtcebcncpbedkmaaGreatZPlain01
import Derived.RangeFuncNested
import Derived.RangeFuncBound
import Derived.RangeFuncCalls
import Derived.RangeFuncLeaves
import Derived.RangeFuncBox
import Derived.Shelf.Abstract
import Derived.Shelf.RegionOpen
import Derived.OwnWalkIn
import Derived.TacticsInMore
import Derived.LoopNIn
import Derived.LoopIn
namespace Go.Proofs.YtcebcncpbedkmaaGreat
open Go.RowKit

theorem tlv_one {s : Sh} {v : Value} {bs : List Int} {w : World} (h : Ints .u8 w v bs) (hl : bs.length ≤ 1000000000) : Calls Tryz.prog 113 #[s.val, v] w (GotOne s bs w) := by
  cases hm : s.may with
  | false => exact one_may hm
  | true =>
    by_cases h4 : bs.length < 4
    · exact one_short hm h h4
    · cases hf : s.fits (told bs) with
      | false => exact one_unfit hm h (by omega) hl hf
      | true =>
        by_cases hz : bs.length < told bs + s.zeros (told bs)
        · exact one_long hm h (by omega) hl hf hz
        · exact one_there hm h (by omega) hl hf (by omega)

theorem one_u8 {s : Sh} {bs : List Int} (hb : U8 bs) : U8 (s.one bs).1.2 ∧ 0 ≤ (s.one bs).1.1 ∧ (s.one bs).1.1 < 65536 := by
  unfold Sh.one
  split
  · exact ⟨fun z hz => by simp at hz, by simp, by simp⟩
  · split
    · exact ⟨fun z hz => by simp at hz, by simp, by simp⟩
    · split
      · exact ⟨fun z hz => by simp at hz, by simp, by simp⟩
      · split
        · exact ⟨fun z hz => by simp at hz, by simp, by simp⟩
        · have hv := valL_bd (b := bs.take 2) (fun z hz => hb z (List.mem_of_mem_take hz))
          rw [show (bs.take 2).length = 2 by simp; omega, show (256 : Int) ^ 2 = 65536 by decide] at hv
          exact ⟨fun z hz => hb z (List.mem_of_mem_take (List.mem_of_mem_drop hz)), hv.1, hv.2⟩
theorem one_len {s : Sh} (bs : List Int) : (s.one bs).1.2.length ≤ bs.length := by
  unfold Sh.one
  split
  · simp
  · split
    · simp
    · split
      · simp
      · split
        · simp
        · simp; omega
end Go.Proofs.YtcebcncpbedkmaaGreat
namespace Go.Proofs.YtcebcncpbedkmaaGreat
open Go Go.RowKit Go.Shelf
attribute [local go_sem] Oper.semAt_some
set_option maxRecDepth 100000
set_option maxHeartbeats 4000000

theorem tlv_each {s : Sh} {a : Option Addr} {n c : Nat} (w : World) : Calls Tryz.prog 100 #[s.val, .slice a n c] w fun e w' => e = .returned (.func (.func 112) #[] #[.pointer (some ⟨w.heap.size + 1, 0, none⟩), .pointer (some ⟨w.heap.size, 0, none⟩)]) ∧
    w' = (w.alloc (.cells #[.int .i64 s.least, .int .i64 s.step, .bool s.pad, .int .i64 s.bad, .int .i64 s.odd] 111)).alloc (.cells #[.slice a n c] 24) := by
  simp only [Sh.val]
  go_enter Tryz.func100, Tryz.ntmps100
  go_wp2
  go_ret
  exact ⟨rfl, rfl⟩

/-- What is left of the bytes, read off the box. -/
def boxLeft (B : Nat) (W : World) : Nat := match W.cell? ⟨B, 0, none⟩ with | some (.slice _ n _) => n | _ => 0

theorem slice_from' {P : Program} {t e : TypeId} {z : Option Value} {bytes : Nat} (ht : P.underlying t = some (.slice e)) (hinfo : (P.info? e).map (fun i => (i.zero, i.size, i.bytes)) = some (z, 1, bytes))
    {k : IntKind} {w : World} {a : Option Addr} {cap : Nat} {zs : List Int} (h : Ints k w (.slice a zs.length cap) zs) (lo : Int) (l : Nat) (hl : lo = l) (h1 : l ≤ zs.length) :
    ∃ A, (∀ wx : World, (Instr.slice t (.slice a zs.length cap) (some (.int .i64 lo)) none none).run P wx = .ok (.slice A (zs.length - l) (cap - l)) wx) ∧ Ints k w (.slice A (zs.length - l) (cap - l)) (zs.drop l) ∧ ∀ b, (Value.slice A (zs.length - l) (cap - l)).ownBlock = some b → (Value.slice a zs.length cap).ownBlock = some b := by
  subst hl
  have he : P.elem t = e := by simp [Program.elem, ht]
  have hc := h.open
  obtain ⟨a', cap', b, off, hee, h5, -⟩ := hc
  injection hee with e1 e2 e3
  subst e1
  subst e3
  refine ⟨if cap = l then a else a.map (·.add l), fun wx => ?_, by have := cut_ints h l zs.length cap h1 (Nat.le_refl _) h5 (Nat.le_refl _); rwa [List.take_length] at this, fun b hb => ?_⟩
  · rw [run_slice_l wx t a zs.length cap (by rw [he]; exact ht) .i64 l (by omega) (by omega), he, run_sizeOf hinfo]
    simp [Result.andThen, sliced]
  · cases a with
    | none => split at hb <;> simp_all [Value.ownBlock]
    | some p =>
      obtain ⟨b', off', sp⟩ := p
      have : (⟨b', off', sp⟩ : Addr).add l = ⟨b', ((⟨b', off', sp⟩ : Addr).add l).off, ((⟨b', off', sp⟩ : Addr).add l).spot⟩ := by
        unfold Addr.add; split <;> rfl
      split at hb
      · exact hb
      · rw [Option.map_some, this] at hb
        exact hb
theorem ints_low {k : IntKind} {n : Nat} {w w' : World} {v : Value} {zs : List Int} (h : Ints k w v zs) (hn : 0 < zs.length → ∀ b, v.ownBlock = some b → b < n) (hb : Below n w w') : Ints k w' v zs := by
  obtain ⟨⟨a, cap, b, off, rfl, h2, h3, h4, h5, h6⟩, hw⟩ := h
  refine ⟨⟨a, cap, b, off, rfl, h2, h3, h4, h5, ?_⟩, hw⟩
  rcases Nat.eq_zero_or_pos zs.length with h0 | h0
  · intro i hi; simp at hi; omega
  · obtain rfl := h5 h0
    exact h6.of_block (hb.block b (hn h0 b rfl))

/-- What a round that goes on keeps. -/
def Kept (n₀ Sb Bb : Nat) (W W' : World) : Prop := Below n₀ W W' ∧ W'.heap[Sb]? = W.heap[Sb]? ∧ W'.heap[Bb]? = W.heap[Bb]?

theorem each1_in (n : Nat) (hn : 2 ≤ n) (l Sb Bb n₀ : Nat) (s : Sh) (hm : s.may = true) (bs : List Int) (hU : U8 bs) (hlen : bs.length ≤ 1000000000) (J : List (Int × List Int) → World → Prop) (Jx : Int → World → Prop) (hS : n₀ ≤ Sb) (hB : n₀ ≤ Bb) (hSB : Sb ≠ Bb)
    (hJ : ∀ pre A B, J pre A → A.grownBy B (some Bb) → J pre B)
    (hY0 : ∀ pre t bv zs W0 W1, J pre W0 → Below W0.heap.size W0 W1 → W1.ownsRow W0.heap.size 5 1 bv zs.length (zs.map (Value.int .u8)) → U8 zs → (0 ≤ t ∧ t < 65536) → zs.length ≤ 1000000000 → pre.length < bs.length →
      YieldAt Fence.wide (n - 1) Tryz.prog l #[.agg #[.int .i64 t, bv], .int .i64 0] W1 fun e W' => e = .returned (.bool true) ∧ J (pre ++ [(t, zs)]) W' ∧ Kept n₀ Sb Bb W1 W')
    (hY1 : ∀ pre t ab m capb er W0 W1, er ≠ 0 → J pre W0 → Below W0.heap.size W0 W1 →
      YieldAt Fence.wide (n - 1) Tryz.prog l #[.agg #[.int .i64 t, .slice ab m capb], .int .i64 er] W1 fun e W' => e = .returned (.bool false) ∧ Jx er W')
    (W : World) (v : Value) (hv : Ints .u8 W v bs) (hvb : 0 < bs.length → ∀ b, v.ownBlock = some b → b < n₀)
    (hbox : W.heap[Bb]? = some (.cells #[v] 24 (0, 0))) (hsh : W.heap[Sb]? = some (.cells #[.int .i64 s.least, .int .i64 s.step, .bool s.pad, .int .i64 s.bad, .int .i64 s.odd] 111 (0, 0))) (h0 : J [] W) :
    CallsIn Fence.wide n Tryz.prog 112 #[.func (.yield l) #[] #[], .pointer (some ⟨Bb, 0, none⟩), .pointer (some ⟨Sb, 0, none⟩)] W fun e W' => (∃ u, e = .returned u) ∧
      ((∃ xs, s.cut bs = (xs, 0) ∧ J xs W') ∨ (∃ er, er ≠ 0 ∧ s.cut bs = ([], er) ∧ Jx er W')) := by
  refine callsIn_of_wp Tryz.func112 rfl trivial ?_ rfl
  simp only [Tryz.ntmps112, List.size_toArray, List.length_cons, List.length_nil, Nat.reduceAdd, Nat.reduceSub, Array.replicate_succ, Array.replicate_zero, List.push_toArray, List.append_toArray, List.nil_append, List.cons_append]
  gi_wp2
  gi_loopw [5] (fun _ wr => ∃ (pre : List (Int × List Int)) (rest : List Int) (u : Value), wr.heap[Bb]? = some (.cells #[u] 24 (0, 0)) ∧ wr.heap[Sb]? = some (.cells #[.int .i64 s.least, .int .i64 s.step, .bool s.pad, .int .i64 s.bad, .int .i64 s.odd] 111 (0, 0)) ∧
      Hid (Ints .u8 wr u rest) ∧ (0 < rest.length → ∀ b, u.ownBlock = some b → b < n₀) ∧ Hid (J pre wr) ∧ Hid (Cutting s bs pre rest) ∧ pre.length + rest.length ≤ bs.length ∧ Hid (U8 rest))
    (fun _ wr => boxLeft Bb wr)
  case atStart => exact ⟨[], bs, v, hbox, hsh, hv, hvb, h0, Cutting.start hm, by simp, hU⟩
  case round =>
    obtain ⟨pre, rest, u, hbx, hsx, HI, hub, HJ, HC, hpl, HU⟩ := hrel
    obtain ⟨a, cap, b, off, rfl, hcap, hmx, -⟩ := HI.out.open
    have k0 : wr.cell? ⟨Bb, 0, none⟩ = some (.slice a rest.length cap) := cell_row hbx 0
    have k1 : wr.frozen? ⟨Bb, 0, none⟩ = false := frozen_row hbx 0
    have c0 : wr.cell? ⟨Sb, 0, none⟩ = some (.int .i64 s.least) := cell_row hsx 0
    have c1 : wr.cell? ⟨Sb, 1, none⟩ = some (.int .i64 s.step) := cell_row hsx 1
    have c2 : wr.cell? ⟨Sb, 2, none⟩ = some (.bool s.pad) := cell_row hsx 2
    have c3 : wr.cell? ⟨Sb, 3, none⟩ = some (.int .i64 s.bad) := cell_row hsx 3
    have c4 : wr.cell? ⟨Sb, 4, none⟩ = some (.int .i64 s.odd) := cell_row hsx 4
    by_cases h00 : rest.length = 0
    · have HD := Lib.hid (HC.out.done h00)
      have hz : rest = [] := List.eq_nil_of_length_eq_zero h00
      subst hz
      clear hpl h00
      gi_wp2
      go_end0
      exact ⟨⟨_, rfl⟩, .inl ⟨pre, HD.out, HJ.out⟩⟩
    · have hpos : 0 < rest.length := by omega
      have hone := tlv_one (s := s) HI.out (by omega)
      have hu8 := one_u8 (s := s) HU.out
      have hol := one_len (s := s) rest
      have hok := fun h => Sh.one_ok (s := s) (bs := rest) h
      have hnx := fun h => HC.out.next hpos h
      have hfl := fun h => HC.out.fails hpos h
      unfold GotOne at hone
      obtain ⟨⟨⟨t, zs⟩, m, er⟩, ho⟩ : ∃ o, s.one rest = o := ⟨_, rfl⟩
      rw [ho] at hone hu8 hol hok hnx hfl
      simp only at hone hu8 hol hok hnx hfl
      have HO := Lib.hid hone
      obtain ⟨hz8, ht0, ht1⟩ := hu8
      have HZ8 := Lib.hid hz8
      by_cases he : er = 0
      · subst he
        obtain ⟨-, hm4, hml⟩ := hok rfl
        have HN := Lib.hid (hnx rfl)
        obtain ⟨A, hsl, hcut, hAb⟩ := slice_from' Tryz.underlying24 info_u8 HI.out (m : Int) m rfl hml
        have HCut := Lib.hid hcut
        clear hone hok hnx hfl ho hcut hz8
        gi_wp2
        refine ⟨trivial, fun _ => by omega, ?_⟩
        refine (callsIn_wide.2 HO.out).mono ?_
        rintro e w1 ⟨bv, rfl, ho1, hu1, hb1⟩
        obtain ⟨ab, capb, rfl⟩ := own_slice ho1
        have HB1 := Lib.hid (hb1.trans ((below_alloc2 (.cells #[.int .i64 t, .slice ab zs.length capb] 108)).mono hb1.size))
        obtain ⟨fn, tmps, assign, body, hy, hR⟩ := hY0 pre t (.slice ab zs.length capb) zs wr (w1.alloc (.cells #[.int .i64 t, .slice ab zs.length capb] 108)) HJ.out HB1.out (own_below ho1 (below_alloc2 _)) hu1 ⟨ht0, ht1⟩ (by omega) (by omega)
        clear ho1 hu1 hb1
        gi_wp2
        refine ⟨fun _ => by omega, ?_⟩
        refine hR.mono ?_
        rintro e W3 ⟨rfl, hJ3, hk3⟩
        have hlB : Bb < wr.heap.size := (Array.getElem?_eq_some_iff.1 hbx).1
        have hlS : Sb < wr.heap.size := (Array.getElem?_eq_some_iff.1 hsx).1
        have hbx3 := (hk3.2.2.trans (HB1.out.block Bb hlB)).trans hbx
        have hsx3 := (hk3.2.1.trans (HB1.out.block Sb hlS)).trans hsx
        have q0 : W3.cell? ⟨Bb, 0, none⟩ = some (.slice a rest.length cap) := cell_row hbx3 0
        have q1 : W3.frozen? ⟨Bb, 0, none⟩ = false := frozen_row hbx3 0
        have HB3 := Lib.hid ((HB1.out.mono (show n₀ ≤ wr.heap.size by omega)).trans hk3.1)
        have HJ3 := Lib.hid hJ3
        have hsz3 : n₀ ≤ W3.heap.size := by have := (Array.getElem?_eq_some_iff.1 hbx3).1; omega
        clear hJ3 hk3 k0 k1
        gi_wp2
        go_roundw
        case rel =>
          refine ⟨pre ++ [(t, zs)], rest.drop m, .slice A (rest.length - m) (cap - m), heap_put hbx3 0 _, ?_, ?_, fun _ b' hb' => hub hpos b' (hAb b' hb'), ?_, HN.out, by rw [List.length_drop, List.length_append, List.length_singleton]; omega, fun z hz => HU.out z (List.mem_of_mem_drop hz)⟩
          · exact ((grown_put W3 Bb 0 _).block Sb (Array.getElem?_eq_some_iff.1 hsx3).1 (fun e => hSB (by injection e))).trans hsx3
          · exact ints_low HCut.out (fun _ b' hb' => hub hpos b' (hAb b' hb')) (HB3.out.trans ((Below.refl n₀ W3).grown (grown_put W3 Bb 0 _) hsz3 (fun k e => by injection e with e; omega)))
          · exact hJ _ _ _ HJ3.out (grown_put W3 Bb 0 _)
        case measure =>
          have e1 : boxLeft Bb wr = rest.length := by unfold boxLeft; rw [show wr.cell? ⟨Bb, 0, none⟩ = some (.slice a rest.length cap) from cell_row hbx 0]
          have e2 : boxLeft Bb (W3.setCell ⟨Bb, 0, none⟩ (.slice A (rest.length - m) (cap - m))) = rest.length - m := by
            unfold boxLeft
            rw [show (W3.setCell ⟨Bb, 0, none⟩ (.slice A (rest.length - m) (cap - m))).cell? ⟨Bb, 0, none⟩ = some (.slice A (rest.length - m) (cap - m)) from cell_row (heap_put hbx3 0 _) 0]
          rw [e1, e2]
          omega
      · have HF := Lib.hid (hfl he)
        have hne : (er != 0) = true := by simpa using he
        have HE := Lib.hid he
        clear hone hok hnx hfl ho hz8 he
        gi_wp2
        refine ⟨trivial, fun _ => by omega, ?_⟩
        refine (callsIn_wide.2 HO.out).mono ?_
        rintro e w1 ⟨bv, rfl, ho1, hu1, hb1⟩
        obtain ⟨ab, capb, rfl⟩ := own_slice ho1
        have HB1 := Lib.hid (hb1.trans ((below_alloc2 (.cells #[.int .i64 t, .slice ab zs.length capb] 108)).mono hb1.size))
        obtain ⟨fn, tmps, assign, body, hy, hR⟩ := hY1 pre t ab zs.length capb er wr (w1.alloc (.cells #[.int .i64 t, .slice ab zs.length capb] 108)) HE.out HJ.out HB1.out
        clear ho1 hu1 hb1
        gi_wp2
        refine ⟨fun _ => by omega, ?_⟩
        refine hR.mono ?_
        rintro e W3 ⟨rfl, hJ3⟩
        gi_wp2
        refine bodyPost_ret (results_none rfl _ _ _) rfl ?_
        exact ⟨⟨_, rfl⟩, .inr ⟨er, HE.out, HF.out, hJ3⟩⟩

end Go.Proofs.YtcebcncpbedkmaaGreat
