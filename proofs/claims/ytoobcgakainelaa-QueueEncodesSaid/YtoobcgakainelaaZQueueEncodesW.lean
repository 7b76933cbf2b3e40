/- The walk of QueueEncodes. Conditions: none. -/
import Derived.Test.YtoobcgakainelaaZQueW
namespace Go.Proofs.Ytoobcgakainelaa
open Go.RowKit
set_option maxRecDepth 100000
set_option maxHeartbeats 8000000

/-- append under a guard that holds, onto what the call owns. -/
theorem wpList_append_slW {P : Program} {w : World} {ops : Array Oper} {rest : List Oper} {o : Oper} {a : Act} {Q : Exit → Act → World → Prop} (hwd : Region.wanted o (yielded ops a.tmps) = true) (s x : Operand) (t : TypeId)
    (ho : o.op = .call { callee := .builtin .append, args := #[s, x], argTypes := #[t, t] })
    (base : Nat) (e : TypeId) (z : Value) (size bytes : Nat) (ht : P.underlying t = some (.slice e)) (hinfo : (P.info? e).map (fun i => (i.zero, i.size, i.bytes)) = some (some z, size, bytes))
    (hzs : z.cells.size = size) (hsz : 0 < size)
    (v : Value) (n : Nat) (xs : List Value) (hs : a.eval s = v) (hown : w.ownsRow base e size v n xs)
    (xv : Value) (m : Nat) (news : List Value) (hx : a.eval x = xv) (hl : news.length = m * size) (hsl : Sl w xv m news) (h1 : ∀ u ∈ news, u.oneCell' = true)
    (h63 : n + m ≤ maxLen) (hbytes : (n + m) * bytes ≤ 140737488355328) (hbase : base ≤ w.heap.size)
    (h : ∀ v' w', w'.ownsRow base e size v' (n + m) (xs ++ news) → w.grownBy w' v.ownBlock → wpList P ops Q rest (a.put o.dst v') w') :
    wpList P ops Q (o :: rest) a w := by
  have hs := step_append_sl (P := P) (ops := ops) (o := { o with guard := none }) (K := wpList P ops Q rest) (Q := Q) (E := True) rfl s x t ho base e z size bytes ht hinfo hzs hsz v n xs hs hown xv m news hx hl hsl h1 h63 hbytes hbase h
  rw [if_pos (by simp [Region.wanted])] at hs
  unfold wpList
  rw [if_pos hwd]
  exact .inl hs
theorem qenc_sure {v0 v1 : Value} {l : List Que} {more : List Int} {w : World} (h0 : RowsOf QueR 3 w v0 l) (h1 : Ints .u8 w v1 more) (h : fewQ l = false ∨ 100 < more.length) :
    Calls Try.prog 7 #[v0, v1] w fun e w' => e = .returned (.bool true) ∧ Below w.heap.size w w' := by
  have hf := ref_few h0
  obtain ⟨a0, c0, b0, o0, rfl, -⟩ := ques_open h0
  obtain ⟨a1, c1, b1, o1, rfl, -⟩ := h1.open
  have l1 := h1.le
  clear h0 h1
  cases hq : fewQ l with
  | false =>
    rw [hq] at hf
    have HF := Lib.hid hf
    clear hf hq h
    go_enter Try.func7, Try.ntmps7
    go_wp2_with fail
    refine HF.out.mono ?_
    rintro e w1 ⟨rfl, rfl⟩
    go_wp2_with fail
    refine (sure18 _).mono ?_
    rintro e w2 ⟨rfl, hb⟩
    go_wp2_with fail
    go_ret
    exact ⟨rfl, hb⟩
  | true =>
    have e2 : (100 : Int) < (more.length : Int) := by
      rcases h with h | h
      · rw [hq] at h; cases h
      · omega
    rw [hq] at hf
    have HF := Lib.hid hf
    clear hf hq h
    go_enter Try.func7, Try.ntmps7
    go_wp2_with fail
    refine HF.out.mono ?_
    rintro e w1 ⟨rfl, rfl⟩
    go_wp2_with fail
    refine (sure18 _).mono ?_
    rintro e w2 ⟨rfl, hb⟩
    go_wp2_with fail
    go_ret
    exact ⟨rfl, hb⟩

theorem encQ_cases (l : List Que) : ((encQ l).2 = 0 ∧ (encQ l).1.length ≤ 65528) ∨ ((encQ l).2 = 10001 ∧ (encQ l).1 = []) := by
  unfold encQ
  split
  · rename_i h; exact .inl ⟨rfl, h.2⟩
  · exact .inr ⟨rfl, rfl⟩
theorem enc_done {more x : List Int} {er : Int} (hm : more.length ≤ 100) (h : (er = 0 ∧ x.length ≤ 65528) ∨ (er = 10001 ∧ x = [])) :
    ((((Bf.new 200000).bytes more).fail er).bytes x).done = if er = 0 then (more ++ x, 0) else ([], 10001) := by
  have hb : (Bf.new 200000).bytes more = { Bf.new 200000 with bs := more } := by rw [bytes_b_fine rfl (by simp [Bf.new]; omega)]; rfl
  rw [hb]
  rcases h with ⟨rfl, h⟩ | ⟨rfl, rfl⟩
  · rw [if_pos rfl, show ({ Bf.new 200000 with bs := more } : Bf).fail 0 = { Bf.new 200000 with bs := more } from rfl]
    rw [bytes_b_fine rfl (by simp [Bf.new]; omega)]
    rfl
  · rw [if_neg (by decide)]
    rfl

theorem qenc_main {v0 v1 : Value} {l : List Que} {more : List Int} {w : World} (h0 : RowsOf QueR 3 w v0 l) (h1 : Ints .u8 w v1 more) (hq : fewQ l = true) (hl1 : more.length ≤ 100) :
    Calls Try.prog 7 #[v0, v1] w fun e w' => e = .returned (.bool true) ∧ Below w.heap.size w w' := by
  have hf := ref_few h0
  rw [hq] at hf
  have HF := Lib.hid hf
  have HL := Lib.hid (fewQ_l hq)
  have H0 := Lib.hid h0
  have H1 := Lib.hid h1
  have hen := que_encode h0 HL.out
  have hre := fun (W : World) (hW : Below w.heap.size w W) => ref_qencode (h0.below QueR.lasts hW) HL.out
  have hpu := fun (W : World) (hW : Below w.heap.size w W) (L p m : Nat) (g : Option Nat) (s : Bf) (hb : Buf L W p m g s) => que_Put hb (h0.below QueR.lasts hW) HL.out
  have hrt := fun (W : World) (hW : Below w.heap.size w W) => que_right (h0.below QueR.lasts hW) HL.out
  unfold GotEnc at hen hre
  obtain ⟨a0, c0, b0, o0, rfl, -⟩ := ques_open h0
  obtain ⟨a1, c1, b1, o1, rfl, -⟩ := h1.open
  have e2 : ¬ (100 : Int) < (more.length : Int) := by omega
  have hcs := encQ_cases l
  generalize encQ l = en at hen hre hpu hrt hcs
  obtain ⟨x, er⟩ := en
  simp only at hen hre hpu hrt hcs
  have HEn := Lib.hid hen
  have HEr := Lib.hid hre
  have HPu := Lib.hid hpu
  have HRt := Lib.hid hrt
  have HDn : Hid (((((Bf.new 200000).bytes more).fail er).bytes x).done = if er = 0 then (more ++ x, 0) else ([], 10001)) := enc_done hl1 hcs
  clear h0 h1 hf hq hen hre hpu hrt
  rcases hcs with ⟨rfl, hxl⟩ | ⟨rfl, rfl⟩
  all_goals
    first | rw [if_pos rfl] at HDn | rw [if_neg (by decide)] at HDn
    go_enter Try.func7, Try.ntmps7
    go_wp2_with fail
    refine HF.out.mono ?_
    rintro e w1 ⟨rfl, rfl⟩
    go_wp2_with fail
    refine HEn.out.mono ?_
    rintro e w1 ⟨vx, rfl, ho, hu, hb⟩
    have HB1 := Lib.hid hb
    have HX1 := Lib.hid (Ints.of_own ho hu.wf)
    obtain ⟨ax, cx, rfl⟩ := own_slice ho
    clear ho hu hb
    go_wp2_with fail
    refine (HEr.out _ HB1.out).mono ?_
    rintro e w2 ⟨vy, rfl, ho, hu, hb⟩
    have HB2 := Lib.hid (HB1.out.trans (hb.mono HB1.out.size))
    have HX2 := Lib.hid (HX1.out.below hb)
    have HY2 := Lib.hid (Ints.of_own ho hu.wf)
    obtain ⟨ay, cy, rfl⟩ := own_slice ho
    clear ho hu hb
    go_wp2_with fail
    refine (buf_new (n := 200000) (by omega) w2).mono ?_
    rintro e w3 ⟨p, m, rfl, hbu, hb⟩
    have HU3 := Lib.hid hbu
    have HB3 := Lib.hid hb
    have hby := buf_bytes hbu (H1.out.below (HB2.out.trans (hb.mono HB2.out.size)))
    have HBy := Lib.hid hby
    clear hbu hb hby
    go_wp2_with fail
    refine HBy.out.mono ?_
    rintro e w4 ⟨rfl, g4, hbu, ht, -⟩
    have HB4 := Lib.hid (ht.below HB3.out HB3.out.size HU3.out.from)
    have HU4 := Lib.hid hbu
    have hpu := HPu.out _ (HB2.out.trans (HB4.out.mono HB2.out.size)) _ _ _ _ _ hbu
    have HPu' := Lib.hid hpu
    clear hbu ht hpu HBy
    go_wp2_with fail
    refine HPu'.out.mono ?_
    rintro e w5 ⟨rfl, g5, hbu, ht, -⟩
    have HB5 := Lib.hid (ht.below HB4.out HB4.out.size HU4.out.from)
    have hdn := buf_done hbu
    rw [HDn.out] at hdn
    have HDn' := Lib.hid hdn
    clear hbu ht hdn
    go_wp2_with fail
    refine HDn'.out.mono ?_
    rintro e w6 ⟨vz, rfl, ho, hb⟩
    try rw [List.length_append] at ho
    have HB6 := Lib.hid (HB5.out.trans (hb.mono HB5.out.size))
    have HBw := Lib.hid (HB2.out.trans (HB6.out.mono HB2.out.size))
    have HX6 := Lib.hid (HX2.out.below HB6.out)
    have HY6 := Lib.hid (HY2.out.below HB6.out)
    have HZ6 := Lib.hid ho
    obtain ⟨az, cz, rfl⟩ := own_slice ho
    clear ho hb HDn'
    go_wp2_with fail
    refine (HRt.out _ HBw.out).mono ?_
    rintro e w7 ⟨rfl, hb⟩
    have HB7 := Lib.hid (HBw.out.trans (hb.mono HBw.out.size))
    have HX7 := Lib.hid (HX6.out.below hb)
    have HY7 := Lib.hid (HY6.out.below hb)
    have HZ7 := Lib.hid (own_below HZ6.out hb)
    have hby := ref_bytes _ _ _ _ _ HX7.out HY7.out
    rw [decide_eq_true rfl] at hby
    have HBq := Lib.hid hby
    clear hb hby
    go_wp2_with fail
    refine HBq.out.mono ?_
    rintro e w8 ⟨rfl, hb⟩
    have HB8 := Lib.hid (HB7.out.trans (hb.mono HB7.out.size))
    have HY8 := Lib.hid (HY7.out.below hb)
    have HZ8 := Lib.hid (own_below HZ7.out hb)
    clear hb
  · have HOm := Lib.hid (own_made0 w8 w8.heap.size 5 1 (Nat.le_refl _))
    have HBm := Lib.hid (below_alloc2 (w := w8) (.cells #[] 5))
    have HI1m := Lib.hid (H1.out.below (HB8.out.trans (HBm.out.mono HB8.out.size)))
    have hsm : w8.heap.size ≤ (w8.alloc (.cells #[] 5)).heap.size := by simp
    go_wp2_with (first
      | (at_builtin; refine wpList_append_slW (by go_simp) _ _ _ rfl w8.heap.size 5 (.int .u8 0) 1 1 Try.underlying25 info_u8 rfl (by decide) (.slice (some ⟨w8.heap.size, 0, none⟩) 0 0) 0 _ rfl HOm.out (.slice a1 more.length c1) more.length (more.map (Value.int .u8)) rfl (by simp) HI1m.out.1 (ints_one _ _) (by unfold maxLen; omega) (by omega) hsm ?_; intro v5 w9 hown hgrow; rw [Nat.zero_add, List.nil_append] at hown; have HO5 := Lib.hid hown; have HB9 := Lib.hid (own_grown HBm.out hsm HOm.out hgrow rfl); have HY9 := Lib.hid (HY8.out.below HB9.out); obtain ⟨a5, cap5, rfl⟩ := own_slice hown; clear hown hgrow)
      | (at_builtin; refine wpList_append_slW (by go_simp) _ _ _ rfl w8.heap.size 5 (.int .u8 0) 1 1 Try.underlying25 info_u8 rfl (by decide) (.slice a5 more.length cap5) more.length _ rfl HO5.out (.slice ay x.length cy) x.length (x.map (Value.int .u8)) rfl (by simp) HY9.out.1 (ints_one _ _) (by unfold maxLen; omega) (by omega) HB9.out.size ?_; intro v6 w10 hown hgrow; have HO6 := Lib.hid hown; have HB10 := Lib.hid (own_grown HB9.out HB9.out.size HO5.out hgrow rfl); obtain ⟨a6, cap6, rfl⟩ := own_slice hown; clear hown hgrow)
      | fail)
    have hum := H1.out.u8
    have hux := HY8.out.u8
    have hus : ∀ z ∈ more ++ x, (Lit.int .u8 z).wf = true := fun z hz => by
      rcases List.mem_append.1 hz with hz | hz
      · exact hum.wf z hz
      · exact hux.wf z hz
    have hby := ref_bytes _ _ (more ++ x) (more ++ x) _ ((Ints.of_own HZ8.out hus).below HB10.out) (Ints.of_own (k := .u8) (zs := more ++ x) (by rw [List.map_append]; exact HO6.out) hus)
    rw [decide_eq_true rfl] at hby
    have HBt := Lib.hid (HB8.out.trans (HB10.out.mono HB8.out.size))
    clear hum hux hus
    refine hby.mono ?_
    clear hby
    rintro e w11 ⟨rfl, hb⟩
    have HB11 := Lib.hid (HBt.out.trans (hb.mono HBt.out.size))
    clear hb
    go_wp2_with fail
    refine (sure18 _).mono ?_
    rintro e w13 ⟨rfl, hb⟩
    go_wp2_with fail
    go_ret
    exact ⟨by simp, HB11.out.trans (hb.mono HB11.out.size)⟩
  · go_wp2_with fail
    refine (sure18 _).mono ?_
    rintro e w13 ⟨rfl, hb⟩
    go_wp2_with fail
    go_ret
    exact ⟨by simp, HB8.out.trans (hb.mono HB8.out.size)⟩

theorem walk_QueueEncodes (v0 : Value) (l : List Que) (v1 : Value) (more : List Int) (w : World) (h0 : RowsOf QueR 3 w v0 l) (h1 : Ints .u8 w v1 more) :
    Calls Try.prog 7 #[v0, v1] w fun e w' => e = .returned (.bool true) ∧ Below w.heap.size w w' := by
  cases hq : fewQ l with
  | false => exact qenc_sure h0 h1 (.inl hq)
  | true =>
    by_cases h : 100 < more.length
    · exact qenc_sure h0 h1 (.inr h)
    · exact qenc_main h0 h1 hq (by omega)
end Go.Proofs.Ytoobcgakainelaa
