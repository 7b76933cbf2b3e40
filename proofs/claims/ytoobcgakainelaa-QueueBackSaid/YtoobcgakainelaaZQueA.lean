/- The walks of queue.rows, of the document's row, of queue.shape. Conditions: none. The walk of queue.item. Conditions: the data is at most 10^6 bytes. The append of one struct to what a call owns; things as owned elements; what queue.put does to a buffer, in plain Lean; what stands meanwhile. Conditions: none beyond each lemma's own. -/
import Derived.Test.YtoobcgakainelaaZQueP
import Derived.Test.YtoobcgakainelaaZRefTD
import Derived.Test.YtoobcgakainelaaZRefTA
import Derived.Test.YtoobcgakainelaaZBufA
namespace Go.Proofs.Ytoobcgakainelaa
open Go.RowKit
set_option maxRecDepth 100000
set_option maxHeartbeats 4000000

def GotRow (t : Int) (w : World) (e : Ending) (w' : World) : Prop :=
  ∃ a cap, e = .returned (.tuple #[.slice a ((rowsQ t).getD []).length cap, .bool (rowsQ t).isSome]) ∧ Ints .i64 w' (.slice a ((rowsQ t).getD []).length cap) ((rowsQ t).getD []) ∧ Below w.heap.size w w'

theorem que_rows (t : Int) (w : World) : Calls Try.prog 87 #[.int .i64 t] w (GotRow t w) := by
  unfold GotRow
  rcases rowsQ_cases t with ⟨rfl, hr⟩ | ⟨rfl | rfl, hr⟩ | ⟨⟨h1, h2, h3⟩, hr⟩
  · rw [hr]
    clear hr
    go_enter Try.func87, Try.ntmps87
    go_wp2
    go_ret2
    exact ⟨_, _, rfl, Ints.lit .i64 w 3 [-4, 4, -4] _ rfl (by decide) (by decide), below_alloc2 _⟩
  · rw [hr]
    clear hr
    go_enter Try.func87, Try.ntmps87
    go_wp2
    go_ret2
    exact ⟨_, _, rfl, Ints.lit .i64 w 3 [-4, 2, -6] _ rfl (by decide) (by decide), below_alloc2 _⟩
  · rw [hr]
    clear hr
    go_enter Try.func87, Try.ntmps87
    go_wp2
    go_ret2
    exact ⟨_, _, rfl, Ints.lit .i64 w 3 [-4, 2, -6] _ rfl (by decide) (by decide), below_alloc2 _⟩
  · rw [hr]
    clear hr
    have e1 : (t == 65535) = false := by simpa using h1
    have e2 : (t == 1) = false := by simpa using h2
    have e3 : (t == 2) = false := by simpa using h3
    clear h1 h2 h3
    go_enter Try.func87, Try.ntmps87
    go_wp2
    go_ret2
    exact ⟨_, _, rfl, Ints.nil _ _, Below.refl _ _⟩

theorem ref_rows (t : Int) (w : World) : Calls Try.prog 76 #[.int .i64 t] w (GotRow t w) := by
  unfold GotRow
  rcases rowsQ_cases t with ⟨rfl, hr⟩ | ⟨rfl | rfl, hr⟩ | ⟨⟨h1, h2, h3⟩, hr⟩
  · rw [hr]
    clear hr
    go_enter Try.func76, Try.ntmps76
    go_wp2
    go_ret2
    exact ⟨_, _, rfl, Ints.lit .i64 w 3 [-4, 4, -4] _ rfl (by decide) (by decide), below_alloc2 _⟩
  · rw [hr]
    clear hr
    go_enter Try.func76, Try.ntmps76
    go_wp2
    go_ret2
    exact ⟨_, _, rfl, Ints.lit .i64 w 3 [-4, 2, -6] _ rfl (by decide) (by decide), below_alloc2 _⟩
  · rw [hr]
    clear hr
    go_enter Try.func76, Try.ntmps76
    go_wp2
    go_ret2
    exact ⟨_, _, rfl, Ints.lit .i64 w 3 [-4, 2, -6] _ rfl (by decide) (by decide), below_alloc2 _⟩
  · rw [hr]
    clear hr
    have e1 : (t == 65535) = false := by simpa using h1
    have e2 : (t == 1) = false := by simpa using h2
    have e3 : (t == 2) = false := by simpa using h3
    clear h1 h2 h3
    go_enter Try.func76, Try.ntmps76
    go_wp2
    go_ret2
    exact ⟨_, _, rfl, Ints.nil _ _, Below.refl _ _⟩

theorem que_shape (w : World) : Calls Try.prog 77 #[] w fun e w' => e = .returned shQ.val ∧ Below w.heap.size w w' := by
  simp only [Sh.val, shQ]
  go_enter Try.func77, Try.ntmps77
  go_wp2
  have hh := heap_alloc_new w (.cells #[.int .i64 16, .int .i64 8, .bool false, .int .i64 263, .int .i64 263] 24)
  refine bodyPost_ret (res_row1 rfl _ _ w.heap.size _ _ _ _ rfl hh Try.underlying24 rfl (by kernel_rfl)) rfl ?_
  exact ⟨rfl, below_alloc2 _⟩
end Go.Proofs.Ytoobcgakainelaa
namespace Go.Proofs.Ytoobcgakainelaa
open Go.RowKit
set_option maxRecDepth 100000
set_option maxHeartbeats 4000000

theorem res_row_tmpI {P : Program} {fn : Func} {p u : Tmp} {ty : TypeId} (h : fn.results = #[.cell p ty, .tmp u]) (tmps : Array Value) (w : World) (g : Nat) (t : TypeId) (cs : Array Value) (fr : Nat × Nat) (d : TypeDesc)
    (hp : tmps.getD p undef = .pointer (some ⟨g, 0, none⟩)) (hg : w.heap[g]? = some (.cells cs t fr))
    (hu : P.underlying ty = some d) (hd : (match d with | .struct _ | .array _ _ => true | _ => false) = true) (hi : (P.info? ty).map (·.size) = some cs.size) :
    (results fn tmps).run P w = .ok (.tuple #[.agg cs, tmps.getD u undef]) w := by
  have hp' : tmps[p]?.getD undef = .pointer (some ⟨g, 0, none⟩) := by simpa using hp
  simp [results, h, hp', asAddr, run_loadVar_row w g t ty cs fr d hg hu hd hi]
theorem row_below {w w' : World} {g : Nat} {o : Obj} (hb : Below w.heap.size w w') (h : w.heap[g]? = some o) : w'.heap[g]? = some o :=
  (hb.block g (Array.getElem?_eq_some_iff.1 h).1).trans h

/-- What queue.item hands back. -/
def GotItem (p : Prp) (w : World) (e : Ending) (w' : World) : Prop :=
  ∃ bv, e = .returned (.tuple #[.agg #[.int .i64 (itemQ p).1, bv], .bool (bodyQ p).isSome]) ∧ w'.ownsRow w.heap.size 5 1 bv (itemQ p).2.length ((itemQ p).2.map (Value.int .u8)) ∧ U8 (itemQ p).2 ∧ Below w.heap.size w w'

theorem GotItem.none {p : Prp} {w w' : World} (h : bodyQ p = Option.none) (hb : Below w.heap.size w w') : GotItem p w (.returned (.tuple #[.agg #[.int .i64 0, .slice Option.none 0 0], .bool false])) w' := by
  unfold GotItem itemQ
  rw [h]
  exact ⟨_, rfl, World.ownsRow_nil _ _ _ _, fun z hz => by simp at hz, hb⟩
theorem GotItem.some {p : Prp} {b : List Int} {bv : Value} {w w' : World} (h : bodyQ p = Option.some b) (ho : w'.ownsRow w.heap.size 5 1 bv b.length (b.map (Value.int .u8))) (hu : U8 b) (hb : Below w.heap.size w w') : GotItem p w (.returned (.tuple #[.agg #[.int .i64 p.1, bv], .bool true])) w' := by
  unfold GotItem itemQ
  rw [h]
  exact ⟨_, rfl, ho, hu, hb⟩

/-- Behind the append the argument's block and the result's stand as they were. -/
theorem item_app {o0 o1 : Obj} {v2 : Value} {n : Nat} {xs : List Value} {w w2 w4 : World} {cs0 cs1 : Array Value} {f0 f1 : Nat × Nat} (h0 : o0 = .cells cs0 81 f0) (h1 : o1 = .cells cs1 28 f1) (U0 : w2.heap[w.heap.size]? = some o0) (U1 : w2.heap[w.heap.size + 1]? = some o1)
    (hb : Below w.heap.size w w2) (ho : w2.drew.ownsRow w.heap.size 5 1 v2 n xs) (hg : w2.drew.grownBy w4 v2.ownBlock) : w4.heap[w.heap.size]? = some o0 ∧ w4.heap[w.heap.size + 1]? = some o1 ∧ Below w.heap.size w w4 := by
  subst h0 h1
  have hg' : w2.grownBy w4 v2.ownBlock := ⟨hg.os, hg.tape, hg.output, hg.size, hg.block⟩
  have ho' : w2.ownsRow w.heap.size 5 1 v2 n xs := ho
  exact ⟨(hg'.block w.heap.size (Array.getElem?_eq_some_iff.1 U0).1 (fun e => NotTy.of_own ho' (by decide) _ _ _ e.symm U0)).trans U0,
    (hg'.block (w.heap.size + 1) (Array.getElem?_eq_some_iff.1 U1).1 (fun e => NotTy.of_own ho' (by decide) _ _ _ e.symm U1)).trans U1, own_grown hb hb.size ho' hg' rfl⟩

theorem item_own {b c bs : List Int} {a4 : Option Addr} {cap4 L : Nat} {w4 w5 : World} {g : Nat} {cs : Array Value} (hn : b = c ++ bs) (ho : w4.ownsRow L 5 1 (.slice a4 (c.length + bs.length) cap4) (c.length + bs.length) (c.map (Value.int .u8) ++ bs.map (Value.int .u8)))
    (hv : w4.heap[g]? = some (.cells cs 28 (0, 0))) (hg : w4.grownBy w5 (some g)) : w5.ownsRow L 5 1 (.slice a4 (c.length + bs.length) cap4) b.length (b.map (Value.int .u8)) := by
  subst hn
  rw [List.length_append, List.map_append]
  exact own_kept ho hg (NotTy.of_block hv (by decide))

theorem que_item {t a : Int} {dv : Value} {bs : List Int} {w : World} (h : Ints .u8 w dv bs) (hl : bs.length ≤ 1000000) (ha : (Lit.int .u64 a).wf = true) :
    Calls Try.prog 79 #[.agg #[.int .i64 t, .int .u64 a, dv]] w (GotItem (t, a, bs) w) := by
  have HD := Lib.hid h
  obtain ⟨ad, capd, bd, offd, rfl, -⟩ := h.open
  clear h
  have hr0 := heap_alloc_new w (.cells #[.int .i64 t, .int .u64 a, .slice ad bs.length capd] 81)
  have hr1 := heap_alloc_new (w.alloc (.cells #[.int .i64 t, .int .u64 a, .slice ad bs.length capd] 81)) (.cells #[.int .i64 0, .slice none 0 0] 28)
  rw [World.size_alloc] at hr1
  have S0 := Lib.hid (row_below (below_alloc2 (.cells #[.int .i64 0, .slice none 0 0] 28)) hr0)
  have S1 := Lib.hid hr1
  have hb0 := (below_alloc2 (w := w) (.cells #[.int .i64 t, .int .u64 a, .slice ad bs.length capd] 81)).trans ((below_alloc2 (w := w.alloc (.cells #[.int .i64 t, .int .u64 a, .slice ad bs.length capd] 81)) (.cells #[.int .i64 0, .slice none 0 0] 28)).mono (by simp))
  have HB0 := Lib.hid hb0
  clear hr0 hr1 hb0
  go_enter Try.func79, Try.ntmps79
  go_wp2_with fail
  generalize (w.alloc (.cells #[.int .i64 t, .int .u64 a, .slice ad bs.length capd] 81)).alloc (.cells #[.int .i64 0, .slice none 0 0] 28) = w0 at *
  refine (que_rows t w0).mono ?_
  rintro e w1 ⟨ar, capr, rfl, hr, hb⟩
  have HB1 := Lib.hid (HB0.out.trans (hb.mono HB0.out.size))
  have T0 := Lib.hid (row_below hb S0.out)
  have T1 := Lib.hid (row_below hb S1.out)
  have HR := Lib.hid hr
  clear hb hr S0 S1 HB0
  have x0 := cell_row T0.out 0
  have x1 := cell_row T0.out 1
  have x2 := cell_row T0.out 2
  go_wp2_with fail
  have hp1 := row_put _ _ ((rowsQ t).getD []) [a] (w1.alloc (.cells #[.int .u64 a] 76)) (HR.out.below (below_alloc2 _)) (Ints.lit .u64 w1 76 [a] _ rfl (by simp) (by simpa using ha))
  refine hp1.mono ?_
  clear hp1
  rintro e w2 ⟨v2, rfl, ho, hb⟩
  have hb' := (below_alloc2 (w := w1) (.cells #[.int .u64 a] 76)).trans (hb.mono (by simp))
  have HB2 := Lib.hid (HB1.out.trans (hb'.mono HB1.out.size))
  have U0 := Lib.hid (row_below hb' T0.out)
  have U1 := Lib.hid (row_below hb' T1.out)
  have hlow : w.heap.size ≤ (w1.alloc (.cells #[.int .u64 a] 76)).heap.size := by simp; have := HB1.out.size; omega
  have HO2 := Lib.hid (own_base ho hlow)
  clear hb hb' ho T0 T1 HR HB1 hlow x0 x1 x2
  have x0 := cell_row U0.out 0
  have x1 := cell_row U0.out 1
  have x2 := cell_row U0.out 2
  have y0 := cell_row U1.out 0
  have y1 := cell_row U1.out 1
  have z0 := frozen_row U1.out 0
  have z1 := frozen_row U1.out 1
  cases hb : bodyQ (t, a, bs) with
  | none =>
    have hbad : (rowsQ t).isSome = false ∨ (putS ((rowsQ t).getD []) [a]).isSome = false ∨ ((t != 65535) = true ∧ decide ((0 : Int) < bs.length) = true) := by
      unfold bodyQ at hb
      cases hr : rowsQ t with
      | none => exact .inl rfl
      | some ws =>
        rw [hr] at hb
        simp only at hb
        cases hp : putS ws [a] with
        | none => exact .inr (.inl (by simp [hp]))
        | some b =>
          rw [hp] at hb
          simp only at hb
          split at hb
          · rename_i hc
            exact .inr (.inr ⟨by simpa using hc.1, decide_eq_true (by omega)⟩)
          · cases hb
    generalize (putS ((rowsQ t).getD []) [a]).getD [] = B at HO2
    obtain ⟨a2, cap2, rfl⟩ := own_slice HO2.out
    generalize (putS ((rowsQ t).getD []) [a]).isSome = P at hbad ⊢
    generalize ((rowsQ t).getD []).length = N
    generalize (rowsQ t).isSome = A at hbad ⊢
    have hr2 := rows2 U1.out (.int .i64 0) (.slice none 0 0)
    have HF := Lib.hid (And.intro hr2.1 (below_row HB2.out HB2.out.size hr2.2 (Nat.le_succ _)))
    have HB := Lib.hid hb
    clear hr2 hb HO2
    have fin : Hid (∀ tmps : Array Value, tmps.getD 2 undef = .pointer (some ⟨w.heap.size + 1, 0, none⟩) → tmps.getD 3 undef = .bool false → bodyPost Try.prog Try.f79 (GotItem (t, a, bs) w) Exit.ret ⟨tmps, []⟩ ((w2.setCell ⟨w.heap.size + 1, 0, none⟩ (.int .i64 0)).setCell ⟨w.heap.size + 1, 1, none⟩ (.slice none 0 0))) := fun tmps ht1 ht2 => by
      refine bodyPost_ret (res_row_tmpI rfl _ _ (w.heap.size + 1) _ _ _ _ ht1 HF.out.1 Try.underlying28 rfl (by kernel_rfl)) rfl ?_
      rw [ht2]
      exact GotItem.none HB.out HF.out.2
    cases A with
    | false =>
      clear hbad HF HB
      go_wp2_with fail
      exact fin.out _ rfl rfl
    | true =>
      cases P with
      | false =>
        clear hbad HF HB
        go_wp2_with fail
        exact fin.out _ rfl rfl
      | true =>
        obtain ⟨e1, e2⟩ : (t != 65535) = true ∧ 0 < bs.length := by simpa using hbad
        clear hbad HF HB
        go_wp2_with fail
        exact fin.out _ rfl rfl
  | some b =>
    obtain ⟨c, hA, hP, hc, hn, hu, hl12, hor⟩ : ∃ c, (rowsQ t).isSome = true ∧ (putS ((rowsQ t).getD []) [a]).isSome = true ∧ (putS ((rowsQ t).getD []) [a]).getD [] = c ∧ b = c ++ bs ∧ U8 c ∧ c.length = 12 ∧ ((t != 65535) = false ∨ ¬ 0 < bs.length) := by
      unfold bodyQ at hb
      cases hr : rowsQ t with
      | none => rw [hr] at hb; cases hb
      | some ws =>
        rw [hr] at hb
        simp only at hb
        cases hp : putS ws [a] with
        | none => rw [hp] at hb; cases hb
        | some c =>
          rw [hp] at hb
          simp only at hb
          split at hb
          · cases hb
          · rename_i hc
            injection hb with hb
            have hpl : putL ws [a] = some c := by
              unfold putS at hp
              split at hp
              · exact hp
              · cases hp
            refine ⟨c, rfl, by simp [hp], by simp [hp], hb.symm, putL_byte hpl, ?_, ?_⟩
            · rw [putL_len hpl, (rowsQ_some hr).2.1]
            · by_cases h1 : t = 65535
              · exact .inl (by simpa using h1)
              · exact .inr (fun h2 => hc ⟨h1, h2⟩)
    rw [hA, hP]
    rw [hc] at HO2
    obtain ⟨a2, cap2, rfl⟩ := own_slice HO2.out
    have HB := Lib.hid hb
    have HN := Lib.hid hn
    have HU := Lib.hid hu
    have HL := Lib.hid hl12
    clear hA hP hc hn hu hl12 hb
    generalize ((rowsQ t).getD []).length = N
    have HD2 := Lib.hid (HD.out.below HB2.out)
    have HOd : Hid (w2.drew.ownsRow w.heap.size 5 1 (.slice a2 c.length cap2) c.length (c.map (Value.int .u8))) := HO2
    have HSd : Hid (Sl w2.drew (.slice ad bs.length capd) bs.length (bs.map (Value.int .u8))) := Lib.hid (HD2.out.below (below_drewN (Below.refl _ _) 1)).1
    have hor' : t = 65535 ∨ ((t != 65535) = true ∧ ¬ 0 < bs.length) := by
      by_cases h1 : t = 65535
      · exact .inl h1
      · exact .inr ⟨by simpa using h1, hor.resolve_left (by simpa using h1)⟩
    clear hor
    rcases hor' with rfl | ⟨e1, e2⟩
    · go_wp2_with fail
      go_region_law (refine step_append_sl (by rfl) _ _ _ (by rfl) w.heap.size 5 (.int .u8 0) 1 1 Try.underlying25 info_u8 rfl (by omega) (.slice a2 c.length cap2) c.length (c.map (Value.int .u8)) (by rfl) HOd.out (.slice ad bs.length capd) bs.length (bs.map (Value.int .u8)) (by rfl) (by simp) HSd.out (ints_one _ _) (by have := HL.out; unfold maxLen; omega) (by have := HL.out; omega) (HB2.out.size) ?_
                     intro v4 w4 hown hgrow
                     obtain ⟨s0, s1, hb4⟩ := item_app rfl rfl U0.out U1.out HB2.out HOd.out hgrow
                     have V1 := Lib.hid s1
                     have HB4 := Lib.hid hb4
                     have HO4 := Lib.hid hown
                     have q0 := cell_row s0 0
                     have q1 := cell_row s0 1
                     have q2 := cell_row s0 2
                     have r0 := cell_row s1 0
                     have r1 := cell_row s1 1
                     have k0 := frozen_row s1 0
                     have k1 := frozen_row s1 1
                     obtain ⟨a4, cap4, rfl⟩ := own_slice hown
                     clear s0 s1 hb4 hown hgrow)
      all_goals
        go_wp2
        have hr2 := rows2 V1.out (.int .i64 65535) (.slice a4 (c.length + bs.length) cap4)
        refine bodyPost_ret (res_row_tmpI rfl _ _ (w.heap.size + 1) _ _ _ _ rfl hr2.1 Try.underlying28 rfl (by kernel_rfl)) rfl ?_
        exact GotItem.some HB.out (item_own HN.out HO4.out V1.out hr2.2) (by rw [HN.out]; exact U8.append HU.out HD.out.u8) (below_row HB4.out HB4.out.size hr2.2 (Nat.le_succ _))
    · go_wp2_with fail
      go_region_law (refine step_append_sl (by rfl) _ _ _ (by rfl) w.heap.size 5 (.int .u8 0) 1 1 Try.underlying25 info_u8 rfl (by omega) (.slice a2 c.length cap2) c.length (c.map (Value.int .u8)) (by rfl) HOd.out (.slice ad bs.length capd) bs.length (bs.map (Value.int .u8)) (by rfl) (by simp) HSd.out (ints_one _ _) (by have := HL.out; unfold maxLen; omega) (by have := HL.out; omega) (HB2.out.size) ?_
                     intro v4 w4 hown hgrow
                     obtain ⟨s0, s1, hb4⟩ := item_app rfl rfl U0.out U1.out HB2.out HOd.out hgrow
                     have V1 := Lib.hid s1
                     have HB4 := Lib.hid hb4
                     have HO4 := Lib.hid hown
                     have q0 := cell_row s0 0
                     have q1 := cell_row s0 1
                     have q2 := cell_row s0 2
                     have r0 := cell_row s1 0
                     have r1 := cell_row s1 1
                     have k0 := frozen_row s1 0
                     have k1 := frozen_row s1 1
                     obtain ⟨a4, cap4, rfl⟩ := own_slice hown
                     clear s0 s1 hb4 hown hgrow)
      all_goals
        go_wp2
        have hr2 := rows2 V1.out (.int .i64 t) (.slice a4 (c.length + bs.length) cap4)
        refine bodyPost_ret (res_row_tmpI rfl _ _ (w.heap.size + 1) _ _ _ _ rfl hr2.1 Try.underlying28 rfl (by kernel_rfl)) rfl ?_
        exact GotItem.some HB.out (item_own HN.out HO4.out V1.out hr2.2) (by rw [HN.out]; exact U8.append HU.out HD.out.u8) (below_row HB4.out HB4.out.size hr2.2 (Nat.le_succ _))
end Go.Proofs.Ytoobcgakainelaa
namespace Go.Proofs.Ytoobcgakainelaa
open Go Go.RowKit

/-- append of one new struct, which lies in a block of its own. -/
theorem wpList_append_out {α : Type} {E : Nat → World → α → List Value → Prop} {T : TypeId → Prop} (hK : Kind E T) {P : Program} {w : World} {ops : Array Oper} {rest : List Oper} {o : Oper} {a : Act} {Q : Exit → Act → World → Prop} (hgd : o.guard = none) (s x : Operand) (t : TypeId)
    (ho : o.op = .call { callee := .builtin .append, args := #[s, x], argTypes := #[t, t] })
    (L : Nat) (e : TypeId) (hT : ¬ T e) (z : Value) (size bytes : Nat) (ht : P.underlying t = some (.slice e)) (hinfo : (P.info? e).map (fun i => (i.zero, i.size, i.bytes)) = some (some z, size, bytes))
    (hzs : z.cells.size = size) (hsz : 0 < size)
    (v : Value) (l : List α) (y : α) (hs : a.eval s = v) (hown : OutG E e size L w v l)
    (cs : List Value) (hx : a.eval x = .slice (some ⟨w.heap.size, 0, none⟩) 1 1) (hl : cs.length = size) (h1 : ∀ u ∈ cs, u.oneCell' = true)
    (h63 : l.length + 1 ≤ maxLen) (hbytes : (l.length + 1) * bytes ≤ 140737488355328) (hbase : L ≤ w.heap.size) (hE : E L w y cs)
    (h : ∀ v' w', OutG E e size L w' v' (l ++ [y]) → w.grownBy w' v.ownBlock → wpList P ops Q rest (a.put o.dst v') w') :
    wpList P ops Q (o :: rest) a (w.alloc (.cells cs.toArray e)) := by
  obtain ⟨xs, how, hxs⟩ := hown
  refine wpList_append_sl hgd s x t ho L e z size bytes ht hinfo hzs hsz v l.length xs hs (how.alloc _) _ 1 cs hx (by omega) (Sl.new w cs e 1 (by unfold maxLen; omega)) h1 h63 hbytes (by simp; omega) (fun v' w' a1 a2 a3 => ?_)
  have hg : w.grownBy w' v.ownBlock := ⟨a2.os, a2.tape, a2.output, Nat.le_trans (by simp) a2.size, fun k hk hne => (a2.block k (by simp; omega) hne).trans (heap_alloc_old w _ hk)⟩
  exact h v' w' (OutG.snoc hK hT how hxs hE hl hg a1) hg

/-! ### things -/
def ItmO (L : Nat) (W : World) (x : Int × List Int) (c : List Value) : Prop := ∃ bv, c = [.int .i64 x.1, bv] ∧ W.ownsRow L 5 1 bv x.2.length (x.2.map (Value.int .u8)) ∧ U8 x.2 ∧ (Lit.int .i64 x.1).wf = true
theorem ItmO.kind : Kind ItmO (· = 5) where
  agree := fun ⟨dv, h1, h2, h3⟩ ha => ⟨dv, h1, own_agree h2 ha, h3⟩
  low := fun ⟨dv, h1, h2, h3⟩ hL => ⟨dv, h1, own_base h2 hL, h3⟩
  kept := fun ⟨dv, h1, h2, h3⟩ hg hn => ⟨dv, h1, own_kept h2 hg (hn _ rfl), h3⟩
theorem ItmO.read {L : Nat} {W : World} {x : Int × List Int} {c : List Value} (h : ItmO L W x c) : ItemR W x c := by
  obtain ⟨dv, h1, h2, h3, h4⟩ := h
  exact ⟨dv, h1, Ints.of_own h2 h3.wf, h4⟩
def OutI (L : Nat) (W : World) (v : Value) (pre : List (Int × List Int)) : Prop := OutG ItmO 28 2 L W v pre
theorem OutI.rows {L : Nat} {W : World} {v : Value} {pre : List (Int × List Int)} (h : OutI L W v pre) : RowsOf ItemR 2 W v pre := OutG.rows h ItmO.read
theorem itemQ_wf (p : Prp) : (Lit.int .i64 (itemQ p).1).wf = true := by
  unfold itemQ
  cases hb : bodyQ p with
  | none => rfl
  | some b =>
    rcases rowsQ_cases p.1 with ⟨h, -⟩ | ⟨h | h, -⟩ | ⟨-, h⟩
    · simp only [h]; decide
    · simp only [h]; decide
    · simp only [h]; decide
    · unfold bodyQ at hb; rw [h] at hb; cases hb

/-! ### plain: what put does -/
def failIf (b : Bool) (s : Bf) : Bf := if b then s else s.fail 10001
theorem failIf_step (b c : Bool) (s : Bf) : failIf (b && c) s = if c then failIf b s else (failIf b s).fail 10001 := by
  cases b <;> cases c <;> simp [failIf, Bf.fail]
  split <;> simp_all
def joinQ (l : List Prp) : List Int × Int := shQ.join (l.map itemQ)
def putA (s : Bf) (q : Que) : Bf := failIf (decide (16 + (joinQ q.2.2).1.length ≤ 65528)) ((failIf (q.2.2.all fun p => (bodyQ p).isSome) s).fail (joinQ q.2.2).2)
def putQ (s : Bf) (q : Que) : Bf := ((putA s q).row hdrQ [q.1, q.2.1, (16 + (joinQ q.2.2).1.length : Nat)]).bytes (joinQ q.2.2).1

/-! ### what stands meanwhile -/
structure PutS (L : Nat) (w : World) (p m : Nat) (g g' : Option Nat) (s' : Bf) (row : Obj) (wr : World) : Prop where
  buf : Buf L wr p m g' s'
  fresh : ∀ k, g' = some k → g = some k ∨ w.heap.size ≤ k
  turn : Turn w wr (foot p m g)
  own : wr.heap[w.heap.size]? = some row
  feet : ∀ k, foot p m g k → k < w.heap.size
theorem PutS.start {L : Nat} {w : World} {p m : Nat} {g : Option Nat} {s : Bf} {row : Obj} (h : Buf L w p m g s) : PutS L w p m g g s row (w.alloc row) where
  buf := h.below (below_alloc2 _)
  fresh := fun _ e => .inl e
  turn := Turn.of_below (below_alloc2 _) _
  own := heap_alloc_new w row
  feet := h.flt
variable {L : Nat} {w wr wr' : World} {p m : Nat} {g g' : Option Nat} {s' s'' : Bf} {row : Obj}
theorem PutS.size (h : PutS L w p m g g' s' row wr) : w.heap.size + 1 ≤ wr.heap.size := by
  have := (Array.getElem?_eq_some_iff.1 h.own).1
  omega
theorem PutS.below (h : PutS L w p m g g' s' row wr) (hb : Below wr.heap.size wr wr') : PutS L w p m g g' s' row wr' where
  buf := h.buf.below hb
  fresh := h.fresh
  turn := h.turn.trans (Turn.of_below hb (fun _ => False)) (fun _ _ h => h.elim)
  own := row_below hb h.own
  feet := h.feet
theorem PutS.foot (h : PutS L w p m g g' s' row wr) : ∀ k, foot p m g' k → foot p m g k ∨ w.heap.size ≤ k := by
  rintro k (rfl | rfl | e)
  · exact .inl (.inl rfl)
  · exact .inl (.inr (.inl rfl))
  · exact (h.fresh k e).imp (fun e => .inr (.inr e)) id
/-- A buffer's call. -/
theorem PutS.call (h : PutS L w p m g g' s' row wr) {e : Ending} {r : Value} (hg : GotB L wr p m g' s'' r e wr') (hn : g' ≠ some w.heap.size) : ∃ g'', PutS L w p m g g'' s'' row wr' ∧ ∀ k, g'' = some k → g' = some k ∨ wr.heap.size ≤ k := by
  obtain ⟨-, g'', hb, ht, hf⟩ := hg
  have hs := h.size
  refine ⟨g'', ⟨hb, fun k e => ?_, h.turn.trans ht (fun k hk hf => ?_), (ht.block _ (by omega) ?_).trans h.own, h.feet⟩, hf⟩
  · rcases hf k e with e | e
    · exact h.fresh k e
    · exact .inr (by omega)
  · rcases h.foot k hf with h | h
    · exact h
    · omega
  · rintro (e | e | e)
    · have := h.feet p (.inl rfl); omega
    · have := h.feet m (.inr (.inl rfl)); omega
    · exact hn e
/-- The block of the bytes is not the caller's. -/
theorem Buf.not_block {L : Nat} {w : World} {p m : Nat} {g : Option Nat} {s : Bf} {b : Nat} {cs : Array Value} {t : TypeId} {fr : Nat × Nat} (h : Buf L w p m g s) (hb : w.heap[b]? = some (.cells cs t fr)) (ht : 5 ≠ t) : g ≠ some b := by
  obtain ⟨bv, n, h1, h2, h3, -⟩ := h
  intro e
  exact NotTy.of_own h2 ht b cs fr (h3.trans e) hb
/-- Another's row, laid since, may turn. -/
theorem PutS.grown (h : PutS L w p m g g' s' row wr) {v : Value} {e size n : Nat} {xs : List Value} (ho : wr.ownsRow (w.heap.size + 1) e size v n xs) (he : 5 ≠ e) (hg : wr.grownBy wr' v.ownBlock) : PutS L w p m g g' s' row wr' where
  buf := h.buf.turn (S := fun k => v.ownBlock = some k) (Turn.of_grown hg (fun k e _ => e)) (by
    rintro k hk e
    rcases h.foot k hk with hf | hf
    · have := h.feet k hf; have := (ho.lt k e).1; omega
    · rcases hk with rfl | rfl | hk
      · have := h.feet k (.inl rfl); omega
      · have := h.feet k (.inr (.inl rfl)); omega
      · obtain ⟨bv, n, h1, h2, h3, -⟩ := h.buf
        exact own_apart h2 ho he (h3.trans hk) e)
  fresh := h.fresh
  turn := h.turn.trans (Turn.of_grown hg (S := fun k => v.ownBlock = some k) (fun k e _ => e)) (fun k hk e => by have := (ho.lt k e).1; omega)
  own := (hg.block _ (Array.getElem?_eq_some_iff.1 h.own).1 (fun e => by have := (ho.lt _ e.symm).1; omega)).trans h.own
  feet := h.feet
/-- A fault told. -/
theorem PutS.fail {s1 s2 : Bf} (h : PutS L w p m g g s1 row wr) (hb : Buf L wr' p m g s2) (hg : wr.grownBy wr' (some p)) : PutS L w p m g g s2 row wr' where
  buf := hb
  fresh := h.fresh
  turn := h.turn.trans (Turn.of_grown hg (S := (· = p)) (fun k e _ => by injection e with e; exact e.symm)) (fun k _ e => .inl e)
  own := (hg.block _ (Array.getElem?_eq_some_iff.1 h.own).1 (fun e => by injection e with e; have := h.feet p (.inl rfl); omega)).trans h.own
  feet := h.feet
theorem agree_put {w wr wr' : World} {p : Nat} (hp : p < w.heap.size) (hg : wr.grownBy wr' (some p)) : Agree (w.heap.size + 1) wr wr' :=
  ⟨hg.size, fun k hk hk' => hg.block k hk' (fun e => by injection e with e; omega)⟩

set_option maxRecDepth 100000
set_option maxHeartbeats 4000000
theorem buf_fail_g {L : Nat} {w : World} {p m : Nat} {g : Option Nat} {s : Bf} (h : Buf L w p m g s) (x : Int) :
    Calls Try.prog 63 #[.pointer (some ⟨p, 0, none⟩), .int .i64 x] w fun e w' => e = .returned (.tuple #[]) ∧ Buf L w' p m g (s.fail x) ∧ w.grownBy w' (some p) := by
  have C1 := Lib.hid (buf_none h)
  have C2 := Lib.hid h
  obtain ⟨bv, er, her, hb, c0, c1, c2, c3, fz⟩ := h.open
  clear h hb
  have fz3 := fz 3
  clear fz
  by_cases h0 : er = 0
  · subst h0
    have H0 := Lib.hid her
    clear her
    go_enter Try.func63, Try.ntmps63
    go_wp2_with ((go_at_call 62; (with_reducible refine C1.out.mono ?_); rintro e1 w1 ⟨rfl, rfl⟩))
    go_end0
    rw [show s.fail x = { s with er := x } by rw [Bf.fail, if_pos H0.out.symm]]
    exact ⟨rfl, C2.out.setEr x, grown_put _ _ _ _⟩
  · have e1 : (er == 0) = false := by simpa using h0
    have H0 := Lib.hid her
    have H1 := Lib.hid h0
    clear her h0
    go_enter Try.func63, Try.ntmps63
    go_wp2_with ((go_at_call 62; (with_reducible refine C1.out.mono ?_); rintro e1 w1 ⟨rfl, rfl⟩))
    go_end0
    rw [show s.fail x = s by rw [Bf.fail, if_neg (by rw [← H0.out]; exact H1.out)]]
    exact ⟨rfl, C2.out, World.grownBy.refl _ _⟩
end Go.Proofs.Ytoobcgakainelaa
