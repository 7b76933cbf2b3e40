/- The append of one struct inside a region that draws; the walk of queue.take. Conditions: no fault before; the cursor lies below. -/
import Derived.Test.YtoobcgakainelaaZQueM
import Derived.Test.YtoobcgakainelaaZRefTG
namespace Go.Proofs.Ytoobcgakainelaa
open Go Go.RowKit

theorem step_append_out {α : Type} {E : Nat → World → α → List Value → Prop} {T : TypeId → Prop} (hK : Kind E T) {P : Program} {w : World} {ops : Array Oper} {o : Oper} {a : Act} {K : Act → World → Prop} {Q : Exit → Act → World → Prop} {F : Prop} (hgd : o.guard = none) (s x : Operand) (t : TypeId)
    (ho : o.op = .call { callee := .builtin .append, args := #[s, x], argTypes := #[t, t] })
    (L : Nat) (e : TypeId) (hT : ¬ T e) (z : Value) (size bytes : Nat) (ht : P.underlying t = some (.slice e)) (hinfo : (P.info? e).map (fun i => (i.zero, i.size, i.bytes)) = some (some z, size, bytes))
    (hzs : z.cells.size = size) (hsz : 0 < size)
    (v : Value) (l : List α) (y : α) (hs : a.eval s = v) (hown : OutG E e size L w v l)
    (cs : List Value) (hx : a.eval x = .slice (some ⟨w.heap.size, 0, none⟩) 1 1) (hl : cs.length = size) (h1 : ∀ u ∈ cs, u.oneCell' = true)
    (h63 : l.length + 1 ≤ maxLen) (hbytes : (l.length + 1) * bytes ≤ 140737488355328) (hbase : L ≤ w.heap.size) (hE : E L w y cs)
    (h : ∀ v' w', OutG E e size L w' v' (l ++ [y]) → w.grownBy w' v.ownBlock → K (a.put o.dst v') w') :
    if Region.wanted o (yielded ops a.tmps) = true then Oper.wp P o a (w.alloc (.cells cs.toArray e)).drew K Q else F := by
  obtain ⟨xs, how, hxs⟩ := hown
  refine step_append_sl (w := (w.alloc (.cells cs.toArray e)).drew) hgd s x t ho L e z size bytes ht hinfo hzs hsz v l.length xs hs (show (w.alloc (.cells cs.toArray e)).ownsRow L e size v l.length xs from how.alloc _) _ 1 cs hx (by omega) (show Sl (w.alloc (.cells cs.toArray e)) _ 1 cs from Sl.new w cs e 1 (by unfold maxLen; omega)) h1 h63 hbytes (by show L ≤ (w.alloc _).heap.size; simp; omega) (fun v' w' a1 a2 => ?_)
  have hg : w.grownBy w' v.ownBlock := ⟨a2.os, a2.tape, a2.output, Nat.le_trans (show w.heap.size ≤ (w.alloc (.cells cs.toArray e)).heap.size by simp) a2.size, fun k hk hne => (a2.block k (show k < (w.alloc (.cells cs.toArray e)).heap.size by simp; omega) hne).trans (heap_alloc_old w _ hk)⟩
  exact h v' w' (OutG.snoc hK hT how hxs hE hl hg a1) hg

set_option maxRecDepth 100000
set_option maxHeartbeats 8000000
theorem info_prop : (Try.prog.info? 81).map (fun i => (i.zero, i.size, i.bytes)) = some (some (.agg #[.int .i64 0, .int .u64 0, .slice none 0 0]), 3, 40) := by kernel_rfl
theorem info_queue : (Try.prog.info? 79).map (fun i => (i.zero, i.size, i.bytes)) = some (some (.agg #[.int .u64 0, .int .u64 0, .slice none 0 0]), 3, 40) := by kernel_rfl
/-! ### properties, read -/
theorem St.fail_pos (s : St) (e : Int) : (s.fail e).pos = s.pos := by unfold St.fail; split <;> rfl
theorem PropE.start (bs : List Int) : PropE bs [] bs 0 := .inl ⟨rfl, Propping.start bs⟩
theorem PropE.one_bad {bs rest : List Int} {acc : List Prp} {er : Int} (h : PropE bs acc rest er) (h0 : 0 < rest.length) (h1 : (shQ.one rest).2.2 ≠ 0) : (if er = 0 then (shQ.one rest).2.2 else er) ≠ 0 ∧ propsQ bs = ([], if er = 0 then (shQ.one rest).2.2 else er) := by
  rcases h with ⟨rfl, h⟩ | ⟨he, h⟩
  · rw [if_pos rfl]; exact ⟨h1, h.fails h0 h1⟩
  · rw [if_neg he]; exact ⟨he, h⟩
theorem PropE.step {bs rest : List Int} {acc : List Prp} {er : Int} (h : PropE bs acc rest er) (h0 : 0 < rest.length) (h1 : (shQ.one rest).2.2 = 0) : PropE bs (acc ++ [(propQ (shQ.one rest).1).1]) (rest.drop (shQ.one rest).2.1) (if er = 0 then (propQ (shQ.one rest).1).2 else er) := by
  rcases h with ⟨rfl, h⟩ | ⟨he, h⟩
  · rw [if_pos rfl]
    by_cases h2 : (propQ (shQ.one rest).1).2 = 0
    · exact .inl ⟨h2, h.next h0 h1 h2⟩
    · exact .inr ⟨h2, h.failp h0 h1 h2⟩
  · rw [if_neg he]; exact .inr ⟨he, h⟩
theorem PropE.done {bs rest : List Int} {acc : List Prp} {er : Int} (h : PropE bs acc rest er) (h0 : rest.length = 0) : (er = 0 ∧ propsQ bs = (acc, 0)) ∨ (er ≠ 0 ∧ propsQ bs = ([], er)) := h.imp (fun h => ⟨h.1, h.2.done h0⟩) id
theorem good_end {r bs : List Int} {a b er : Int} {acc : List Prp} (hO : oneQ r = if (propsQ bs).2 ≠ 0 then ((0, 0, []), (propsQ bs).2) else ((a, b, (propsQ bs).1), 0)) (h : (er = 0 ∧ propsQ bs = (acc, 0)) ∨ (er ≠ 0 ∧ propsQ bs = ([], er))) : er = (oneQ r).2 ∧ (er = 0 → (a, b, acc) = (oneQ r).1) := by
  rcases h with ⟨rfl, h⟩ | ⟨he, h⟩
  · rw [hO, h]; exact ⟨rfl, fun _ => rfl⟩
  · rw [hO, h, if_pos he]; exact ⟨rfl, fun h => absurd h he⟩

theorem take_good {B : Nat × Nat} {w : World} {p : Nat} {s : St} (h : Cur B w p s) (hB : B.2 ≤ w.heap.size) (he : s.er = 0) (hs : s.sh ≠ 0) (hl : 16 ≤ s.rest.length) {a b n : Nat} (hh : getS hdrQ s.rest = ([(a : Int), (b : Int), (n : Int)], 0)) (hn : n < 65536) (ha : a < 4294967296) (hb : b < 4294967296) (hz : sizeQ s.rest = n)
    (hc : 16 ≤ n) (hd : n % 8 = 0) (hg : n ≤ s.rest.length) :
    Calls Try.prog 56 #[.pointer (some ⟨p, 0, none⟩)] w (GotTake B w p s) := by
  have HO := Lib.hid (oneQ_good hl hh (by rw [hz]; exact hc) (by rw [hz]; exact hd) (by rw [hz]; exact hg))
  rw [hz] at HO
  have HZ := Lib.hid hz
  have HR : Hid ((St.fresh (s.rest.take 16) 263 269).row [4, 4, 2, -6] = ({ St.fresh (s.rest.take 16) 263 269 with pos := 16 }, [(a : Int), (b : Int), (n : Int)])) := by
    show _ = _
    rw [row_fine rfl (by show (getS hdrQ (s.rest.take 16)).2 = 0; rw [hdr_take hl, hh])]
    show (_, (getS hdrQ (s.rest.take 16)).1) = _
    rw [hdr_take hl, hh]
    rfl
  have HWf : Hid (∀ z ∈ [(a : Int), (b : Int), (n : Int), 0, 0, 0], (Lit.int .u64 z).wf = true) := by
    intro z hz
    simp at hz
    rcases hz with rfl | rfl | rfl | rfl <;> first | exact wf_u64n (by omega) (by omega) | decide
  have hwa := HWf.out (a : Int) (by simp)
  have hwb := HWf.out (b : Int) (by simp)
  have HWa := Lib.hid hwa
  have HWb := Lib.hid hwb
  clear hwa hwb hh hz
  have e1 : ¬ (n : Int) < 16 := by omega
  have e1b : decide ((n : Int) < 16) = false := decide_eq_false (by omega)
  have e2 : (n : Int) % 8 = 0 := by omega
  rw [St.rest_left] at hg
  have e3 : ¬ (s.left : Int) < (n : Int) := by omega
  have e3b : decide ((s.left : Int) < (n : Int)) = false := decide_eq_false (by omega)
  rw [St.rest_left] at hl
  have hll : ¬ s.left < 16 := by omega
  have hlb : decide ((s.left : Int) < 16) = false := decide_eq_false (by omega)
  have H0 := Lib.hid (TakeW.start h hB #[.int .u64 0, .int .u64 0, .slice none 0 0])
  have HE := Lib.hid he
  have HS := Lib.hid hs
  clear h hB he hs
  go_enter Try.func56, Try.ntmps56
  go_wp2_with fail
  refine (cur_left H0.out.cur).mono ?_
  rintro e w1 ⟨rfl, q1, rfl⟩
  have H1 := Lib.hid (H0.out.drew q1)
  have hby := cur_bytes H1.out.cur HS.out 16 (by decide)
  rw [show s.bytes 16 = ({ s with pos := s.pos + 16 }, s.rest.take 16) from bytes_fine (n := 16) HE.out (by omega)] at hby
  have hl16 : (s.rest.take 16).length = 16 := by rw [List.length_take, St.rest_left]; omega
  generalize s.rest.take 16 = b16 at hby HR hl16
  have HBy := Lib.hid hby
  have HL16 := Lib.hid hl16
  clear hby hl16
  go_wp2_with fail
  refine HBy.out.mono ?_
  rintro e w2 ⟨v2, rfl, ho, hu, hc, hg⟩
  have H2 := Lib.hid (H1.out.call hc hg)
  have HI2 := Lib.hid (Ints.of_own ho hu.wf)
  rw [HL16.out] at ho
  obtain ⟨a2, cap2, rfl⟩ := own_slice ho
  clear ho hu hc hg
  go_wp2_with fail
  refine (cur_new HI2.out (by have := HL16.out; omega) 263 269).mono ?_
  rintro e w3 ⟨p2, rfl, hc, hb⟩
  have H3 := Lib.hid (H2.out.below hb)
  have HP2 : Hid (w.heap.size + 1 ≤ p2) := Lib.hid (Nat.le_trans H2.out.size hc.from)
  have HC3 := Lib.hid hc
  clear hc hb
  go_wp2_with fail
  have hrw := cur_row (HC3.out.below (below_alloc2 (.cells #[.int .i64 4, .int .i64 4, .int .i64 2, .int .i64 (-6)] 3))) (.slice (some ⟨w3.heap.size, 0, none⟩) 4 4) [4, 4, 2, -6] (Ints.lit .i64 w3 3 [4, 4, 2, -6] _ rfl (by decide) (by decide))
  rw [HR.out] at hrw
  refine hrw.mono ?_
  clear hrw
  rintro e w4 ⟨v4, rfl, ho, hc, hg⟩
  have H4 := Lib.hid ((H3.out.below (below_alloc2 (.cells #[.int .i64 4, .int .i64 4, .int .i64 2, .int .i64 (-6)] 3))).row hg (fun k e => by injection e with e; have := HP2.out; omega))
  have HC4 := Lib.hid hc
  have hs34 : w3.heap.size ≤ w4.heap.size := by have := hg.size; simp at this; omega
  have HO4 := Lib.hid (own_base ho (show w3.heap.size ≤ _ by simp))
  obtain ⟨a4, cap4, rfl⟩ := own_slice ho
  clear ho hc hg
  go_wp2_with (at_builtin; refine wpList_append_sl rfl _ _ _ rfl w3.heap.size 76 (.int .u64 0) 1 8 Try.underlying83 info_u64 rfl (by decide) (.slice a4 3 cap4) 3 _ rfl (HO4.out.alloc _) (.slice (some ⟨w4.heap.size, 0, none⟩) 3 3) 3 [.int .u64 0, .int .u64 0, .int .u64 0] rfl rfl (Sl.new w4 [.int .u64 0, .int .u64 0, .int .u64 0] 76 3 (by unfold maxLen; omega)) (by simp [Value.oneCell']) (by unfold maxLen; simp) (by simp) (by simp; omega) ?_; intro v5 w5 hown hgrow hvb; have HO5 := Lib.hid hown; have H5 := Lib.hid ((H4.out.below (below_alloc2 (.cells #[.int .u64 0, .int .u64 0, .int .u64 0] 76))).row hgrow (fun k e => Nat.le_trans H3.out.size (HO4.out.lt k e).1)); have HC5 := Lib.hid ((HC4.out.below (below_alloc2 (.cells #[.int .u64 0, .int .u64 0, .int .u64 0] 76))).grown hgrow (fun k e => .inr (HO4.out.lt k e).1)); have hs5 := hgrow.size; clear hown hgrow hvb)
  have HI5 := Lib.hid (Ints.of_own (k := .u64) (zs := [(a : Int), (b : Int), (n : Int), 0, 0, 0]) HO5.out HWf.out)
  obtain ⟨g5, cap5, rfl, -, -⟩ := own_pos HO5.out (by simp)
  have hg5 : w3.heap.size ≤ g5 := (HO5.out.lt g5 rfl).1
  have hp23 := HC3.out.upto
  have hps := H5.out.lt
  have hs33 := H3.out.size
  go_wp2_with fail
  refine (cur_err HC5.out).mono ?_
  rintro e w6 ⟨rfl, rfl⟩
  go_wp2_with fail
  refine (cur_fail H5.out.cur 0).mono ?_
  rintro e w6 ⟨rfl, hc, hg⟩
  have H6 := Lib.hid (H5.out.call hc hg)
  have HI6 := Lib.hid (HI5.out.grown hg (fun b e e' => by have e1 : g5 = b := (by simpa [Value.ownBlock] using e); have e2 : b = p := (by simpa using e'); omega))
  clear hc hg
  obtain ⟨l0, l1, l2⟩ := three_cells HI6.out (by simp)
  have x0 := cell_row H6.out.own 0
  have x1 := cell_row H6.out.own 1
  have z0 := frozen_row H6.out.own 0
  have z1 := frozen_row H6.out.own 1
  have HS6 : Hid (({ s with pos := s.pos + 16 } : St).fail 0 = { s with pos := s.pos + 16 }) := St.fail_same rfl
  rw [HS6.out] at H6
  have HBz : Hid (({ s with pos := s.pos + 16 } : St).bytes (max ((n : Int) - 16) 0) = ({ s with pos := s.pos + n }, (s.rest.take n).drop 16)) := by
    show _ = _
    rw [show max ((n : Int) - 16) 0 = ((n - 16 : Nat) : Int) by omega, bytes_fine (s := ({ s with pos := s.pos + 16 } : St)) HE.out (by simp only [St.left] at *; omega)]
    simp only [St.rest, List.drop_take, List.drop_drop]
    rw [show s.pos + 16 + (n - 16) = s.pos + n by omega]
  go_wp2_with fail
  go_region
  all_goals
    go_wp2_with fail
    have H8 := Lib.hid ((H6.out.two (.int .u64 (a : Int)) (.int .u64 (b : Int))).drew 1)
    have hby := cur_bytes (w := (((w6.setCell ⟨w.heap.size, 0, none⟩ (.int .u64 (a : Int))).setCell ⟨w.heap.size, 1, none⟩ (.int .u64 (b : Int))).drew)) H8.out.cur (by exact HS.out) (max ((n : Int) - 16) 0) (wf_i64 (by omega) (by omega))
    rw [HBz.out] at hby
    have hbl : ((s.rest.take n).drop 16).length ≤ 65536 := by rw [List.length_drop, List.length_take]; omega
    generalize (s.rest.take n).drop 16 = bs at hby hbl HO HBz
    refine hby.mono ?_
    clear hby
    rintro e w9 ⟨v9, rfl, ho, hu, hc, hg⟩
    have H9 := Lib.hid (H8.out.call hc hg)
    have HI9 := Lib.hid (Ints.of_own ho hu.wf)
    have HA9 := Lib.hid (ByteAt.of_own ho)
    obtain ⟨a9, cap9, rfl⟩ := own_slice ho
    clear ho hu hc hg x0 x1 z0 z1 l0 l1 l2
    go_wp2_with fail
    go_loopw [7] (fun v wr => ∃ (rest : List Int) (pre : List Prp) (pv : Value) (s' : St), Hid (Ints .u8 wr v rest) ∧ Hid (ByteAt wr v) ∧ Hid (TakeW B w p s' #[.int .u64 (a : Int), .int .u64 (b : Int), pv] wr) ∧ Hid (OutP (w.heap.size + 1) wr pv pre) ∧ Hid (s'.bs = s.bs ∧ s'.sh = s.sh ∧ s'.pos = s.pos + n) ∧ Hid (PropE bs pre rest s'.er) ∧ pre.length + rest.length ≤ 65536) (fun v _ => lenV v)
    case atStart => exact ⟨bs, [], .slice none 0 0, _, HI9.out, HA9.out, H9.out, OutG.nil _ _ _ _ _, ⟨rfl, rfl, rfl⟩, by have := PropE.start bs; show PropE bs [] bs s.er; rw [HE.out]; exact this, by simp; omega⟩
    case round =>
      obtain ⟨rest, pre, pv, s', HI, HA, H, HO', HT, HPE, hcnt⟩ := hrel
      obtain ⟨ar, capr, bo, off, rfl, -⟩ := HI.out.open
      obtain ⟨ap, capp, rfl⟩ := OutG.slice HO'.out
      have x0 := cell_row H.out.own 0
      have x1 := cell_row H.out.own 1
      have x2 := cell_row H.out.own 2
      have z0 := frozen_row H.out.own 0
      have z1 := frozen_row H.out.own 1
      have z2 := frozen_row H.out.own 2
      by_cases h0 : rest.length = 0
      · have HPD := Lib.hid (HPE.out.done h0)
        have e4 : ¬ (0 : Int) < (rest.length : Int) := by omega
        clear h0
        go_wp2_with fail
        have hr := rows3 H.out.own (.int .u64 (a : Int)) (.int .u64 (b : Int)) (.slice ap pre.length capp)
        have hge := good_end HO.out HPD.out
        exact TakeW.ret rfl _ (H.out.put hr.2 hr.1) rfl (OutG.low PrpO.kind (OutG.kept PrpO.kind HO'.out hr.2 (fun t ht => NotTy.of_block H.out.own (by rcases ht with rfl | rfl <;> decide))) (Nat.le_succ _)) HWa.out HWb.out HT.out.1 HT.out.2.1 hge.1 (fun h => ⟨hge.2 h, by rw [HZ.out]; exact HT.out.2.2, by rw [HZ.out]; omega⟩)
      · have e4 : (0 : Int) < (rest.length : Int) := by omega
        clear x0 x1 x2 z0 z1 z2
        go_wp2_with fail
        refine (que_shape wr).mono ?_
        rintro e w10 ⟨rfl, hb⟩
        have H10 := Lib.hid (H.out.below hb)
        have HI10 := Lib.hid (HI.out.below hb)
        have HA10 := Lib.hid (HA.out.below hb)
        have HO10 := Lib.hid (OutG.below PrpO.kind HO'.out hb)
        clear hb
        go_wp2_with fail
        refine (tlv_one (s := shQ) HI10.out (by omega)).mono ?_
        rintro e w11 ⟨bv, rfl, ho, hu, hb⟩
        have H11 := Lib.hid (H10.out.below hb)
        have HI11 := Lib.hid (HI10.out.below hb)
        have HA11 := Lib.hid (HA10.out.below hb)
        have HO11 := Lib.hid (OutG.below PrpO.kind HO10.out hb)
        have HX11 := Lib.hid (own_base ho H10.out.size)
        have HU11 := Lib.hid hu
        have hou := one_u8 (s := shQ) HI.out.u8
        have HL11 := Lib.hid (one_len (s := shQ) rest)
        have HSt := Lib.hid (fun h1 => HPE.out.step (by omega) h1)
        have HBd := Lib.hid (fun h1 => HPE.out.one_bad (by omega) h1)
        have HOk := Lib.hid (fun h1 => (shQ.one_ok (bs := rest) h1).2)
        clear ho hu hb
        generalize shQ.one rest = o at HX11 HU11 hou HL11 HSt HBd HOk ⊢
        obtain ⟨⟨t, zs⟩, k, er⟩ := o
        simp only at HX11 HU11 hou HL11 HSt HBd HOk ⊢
        have HT2 := Lib.hid hou.2
        clear hou
        obtain ⟨ax, capx, rfl⟩ := own_slice HX11.out
        have H12 := Lib.hid (H11.out.below (below_alloc2 (.cells #[.int .i64 t, .slice ax zs.length capx] 28)))
        have R12 := Lib.hid (heap_alloc_new w11 (.cells #[.int .i64 t, .slice ax zs.length capx] 28))
        have HI12 := Lib.hid (HI11.out.below (below_alloc2 (.cells #[.int .i64 t, .slice ax zs.length capx] 28)))
        have HA12 := Lib.hid (HA11.out.below (below_alloc2 (.cells #[.int .i64 t, .slice ax zs.length capx] 28)))
        have HO12 := Lib.hid (OutG.below PrpO.kind HO11.out (below_alloc2 (.cells #[.int .i64 t, .slice ax zs.length capx] 28)))
        have HX12 := Lib.hid (own_below HX11.out (below_alloc2 (.cells #[.int .i64 t, .slice ax zs.length capx] 28)))
        have hs11 := H11.out.size
        have hlt := H11.out.lt
        go_wp2_with fail
        generalize w11.alloc (.cells #[.int .i64 t, .slice ax zs.length capx] 28) = w12 at H12 R12 HI12 HA12 HO12 HX12 ⊢
        refine (cur_fail H12.out.cur er).mono ?_
        rintro e w13 ⟨rfl, hc, hg⟩
        have H13 := Lib.hid (H12.out.call hc hg)
        have hnt : ∀ t', 103 ≠ t' → NotTy w12 (some p) t' := fun t' ht => H12.out.cur.notTy ht
        have R13 := Lib.hid ((hg.block _ (Array.getElem?_eq_some_iff.1 R12.out).1 (fun e => by injection e with e; omega)).trans R12.out)
        have HI13 := Lib.hid (HI12.out.keptB HA12.out hg (hnt _ (by decide)))
        have HA13 := Lib.hid (HA12.out.kept hg (hnt _ (by decide)))
        have HO13 := Lib.hid (OutG.kept PrpO.kind HO12.out hg (fun t ht => hnt t (by rcases ht with rfl | rfl <;> decide)))
        have HX13 := Lib.hid (own_kept HX12.out hg (hnt _ (by decide)))
        clear hc hg hnt
        by_cases he0 : er = 0
        · subst he0
          have HSt := Lib.hid (HSt.out rfl)
          have hok := HOk.out rfl
          have hkl : k ≤ rest.length := hok.2
          have hk4 : 4 ≤ k := hok.1
          have HS13 : Hid (s'.fail 0 = s') := St.fail_same rfl
          rw [HS13.out] at H13
          have y0 := cell_row R13.out 0
          have y1 := cell_row R13.out 1
          have hpr := que_prop (t := t) (Ints.of_own HX13.out HU11.out.wf) (by have := HL11.out; omega)
          have HPr := Lib.hid hpr
          have HPw := Lib.hid (propQ_wf HT2.out HU11.out)
          clear hpr hok HOk HBd
          go_wp2_with fail
          refine HPr.out.mono ?_
          rintro e w14 ⟨dv, rfl, ho, hu, hb⟩
          have H14 := Lib.hid (H13.out.below hb)
          have HI14 := Lib.hid (HI13.out.below hb)
          have HA14 := Lib.hid (HA13.out.below hb)
          have HO14 := Lib.hid (OutG.below PrpO.kind HO13.out hb)
          have HX14 := Lib.hid (own_base ho H13.out.size)
          clear ho hu hb y0 y1
          generalize propQ (t, zs) = pq at HX14 HPw HSt ⊢
          obtain ⟨⟨pt, pa, pd⟩, pe⟩ := pq
          simp only at HX14 HPw HSt ⊢
          obtain ⟨ad, capd, rfl⟩ := own_slice HX14.out
          have H15 := Lib.hid (H14.out.below (below_alloc2 (.cells #[.int .i64 pt, .int .u64 pa, .slice ad pd.length capd] 81)))
          have R15 := Lib.hid (heap_alloc_new w14 (.cells #[.int .i64 pt, .int .u64 pa, .slice ad pd.length capd] 81))
          have HI15 := Lib.hid (HI14.out.below (below_alloc2 (.cells #[.int .i64 pt, .int .u64 pa, .slice ad pd.length capd] 81)))
          have HA15 := Lib.hid (HA14.out.below (below_alloc2 (.cells #[.int .i64 pt, .int .u64 pa, .slice ad pd.length capd] 81)))
          have HO15 := Lib.hid (OutG.below PrpO.kind HO14.out (below_alloc2 (.cells #[.int .i64 pt, .int .u64 pa, .slice ad pd.length capd] 81)))
          have HX15 := Lib.hid (own_below HX14.out (below_alloc2 (.cells #[.int .i64 pt, .int .u64 pa, .slice ad pd.length capd] 81)))
          have hs14 := H14.out.size
          go_wp2_with fail
          generalize w14.alloc (.cells #[.int .i64 pt, .int .u64 pa, .slice ad pd.length capd] 81) = w15 at H15 R15 HI15 HA15 HO15 HX15 ⊢
          refine (cur_fail H15.out.cur pe).mono ?_
          rintro e w16 ⟨rfl, hc, hg⟩
          have H16 := Lib.hid (H15.out.call hc hg)
          have hnt : ∀ t', 103 ≠ t' → NotTy w15 (some p) t' := fun t' ht => H15.out.cur.notTy ht
          have R16 := Lib.hid ((hg.block _ (Array.getElem?_eq_some_iff.1 R15.out).1 (fun e => by injection e with e; omega)).trans R15.out)
          have HI16 := Lib.hid (HI15.out.keptB HA15.out hg (hnt _ (by decide)))
          have HA16 := Lib.hid (HA15.out.kept hg (hnt _ (by decide)))
          have HO16 := Lib.hid (OutG.kept PrpO.kind HO15.out hg (fun t ht => hnt t (by rcases ht with rfl | rfl <;> decide)))
          have HX16 := Lib.hid (own_kept HX15.out hg (hnt _ (by decide)))
          clear hc hg hnt
          have hen : Hid ((s'.fail pe).er = if s'.er = 0 then pe else s'.er) := St.fail_er _ _
          have y0 := cell_row R16.out 0
          have y1 := cell_row R16.out 1
          have y2 := cell_row R16.out 2
          have x2 := cell_row H16.out.own 2
          have x2' := cell_row (H16.out.below (below_alloc2 (.cells #[.int .i64 pt, .int .u64 pa, .slice ad pd.length capd] 81))).own 2
          have HE16 : Hid (PrpO (w.heap.size + 1) w16 (pt, pa, pd) [.int .i64 pt, .int .u64 pa, .slice ad pd.length capd]) := ⟨_, rfl, HX16.out, HPw.out.2.2, HPw.out.1, HPw.out.2.1⟩
          obtain ⟨A, hsl, hcut, hAb⟩ := slice_from' Try.underlying25 info_u8 HI16.out (k : Int) k rfl hkl
          have HCut := Lib.hid hcut
          have HAb := Lib.hid (HA16.out.slice hAb)
          clear hcut hAb
          go_wp2_with fail
          go_region_law (refine step_append_out PrpO.kind (by rfl) _ _ _ (by rfl) (w.heap.size + 1) 81 (by decide) (.agg #[.int .i64 0, .int .u64 0, .slice none 0 0]) 3 40 Try.underlying77 info_prop rfl (by omega) (.slice ap pre.length capp) pre (pt, pa, pd) (by rfl) HO16.out [.int .i64 pt, .int .u64 pa, .slice ad pd.length capd] (by rfl) rfl (by simp [Value.oneCell']) (by unfold maxLen; omega) (by omega) H16.out.size HE16.out ?_
                         intro v17 w17 hown hgrow
                         have HO17 := Lib.hid hown
                         have HG17 := Lib.hid hgrow
                         have H17 := Lib.hid (H16.out.row hgrow (fun k e => by obtain ⟨xs, how, -⟩ := HO16.out; exact (how.lt k e).1))
                         have u2 := cell_row H17.out.own 2
                         have f2 := frozen_row H17.out.own 2
                         obtain ⟨a17, cap17, rfl⟩ := OutG.slice hown
                         clear hown hgrow)
          all_goals
            simp only [Act.put, List.getElem_toArray, List.getElem_cons_succ, List.getElem_cons_zero, List.setIfInBounds_toArray, List.set_cons_succ, List.set_cons_zero]
            go_wp2_with fail
            have hg := grown_put w17 w.heap.size 2 (.slice a17 (pre.length + 1) cap17)
            have hnt : ∀ t', 79 ≠ t' → NotTy w17 (some w.heap.size) t' := fun t' ht => NotTy.of_block H17.out.own ht
            have hp16 := OutP.block HO16.out (t := 5) (by decide)
            rw [show (pre ++ [(pt, pa, pd)]).length = pre.length + 1 by simp] at HO17
            refine ⟨⟨rest.drop k, pre ++ [(pt, pa, pd)], .slice a17 (pre.length + 1) cap17, s'.fail pe, (HCut.out.keptB HAb.out HG17.out hp16).keptB (HAb.out.kept HG17.out hp16) hg (hnt _ (by decide)), (HAb.out.kept HG17.out hp16).kept hg (hnt _ (by decide)),
              H17.out.put hg ((heap_put H17.out.own 2 _).trans (by rfl)), OutG.kept PrpO.kind HO17.out hg (fun t ht => hnt t (by rcases ht with rfl | rfl <;> decide)), ⟨by rw [St.fail_bs]; exact HT.out.1, by rw [St.fail_sh]; exact HT.out.2.1, by rw [St.fail_pos]; exact HT.out.2.2⟩, (by rw [hen.out]; first | exact HSt.out | exact HSt.out trivial), by simp; omega⟩, by simp [lenV]; omega⟩
        · have e5 : (er != 0) = true := by simpa using he0
          have HBd := Lib.hid (HBd.out he0)
          have HEe : Hid ((s'.fail er).er = if s'.er = 0 then er else s'.er) := St.fail_er _ _
          have x0 := cell_row H13.out.own 0
          have x1 := cell_row H13.out.own 1
          have x2 := cell_row H13.out.own 2
          have z0 := frozen_row H13.out.own 0
          have z1 := frozen_row H13.out.own 1
          have z2 := frozen_row H13.out.own 2
          clear he0
          go_wp2_with fail
          have hr := rows3 H13.out.own (.int .u64 (a : Int)) (.int .u64 (b : Int)) (.slice ap pre.length capp)
          have hge := good_end (acc := pre) HO.out (.inr ⟨HBd.out.1, HBd.out.2⟩)
          exact TakeW.ret rfl _ (H13.out.put hr.2 hr.1) rfl (OutG.low PrpO.kind (OutG.kept PrpO.kind HO13.out hr.2 (fun t ht => NotTy.of_block H13.out.own (by rcases ht with rfl | rfl <;> decide))) (Nat.le_succ _)) HWa.out HWb.out (by rw [St.fail_bs]; exact HT.out.1) (by rw [St.fail_sh]; exact HT.out.2.1) (by rw [HEe.out]; exact hge.1) (fun h => absurd (HEe.out.symm.trans h) HBd.out.1)
end Go.Proofs.Ytoobcgakainelaa
