/- The walk of the law 'RefuseFrames': it returns true. Conditions: the arguments read as a list of bytes, an int and a message. -/
import Derived.Test.YtfaklenclhljhaaMsgA
import Derived.Test.YtfaklenclhljhaaSameB
import Derived.Test.YtfaklenclhljhaaFrE
import Derived.Test.YtfaklenclhljhaaRfD
namespace Go.Proofs.Ytfaklenclhljhaa
open Go.RowKit
set_option maxRecDepth 100000
set_option maxHeartbeats 4000000

/-- The empty lists. -/
abbrev L0 : Lens := ⟨none, 0, 0, none, 0, 0, none, 0, 0, none, 0, 0, none, 0, 0, none, 0, 0, none, 0, 0, none, 0, 0, none, 0, 0, 0, 0⟩
theorem same_msgXX (ty xid : Int) (va vb da db : Value) (l ds : List Int) (w : World) (h1 : Ints .u64 w va l) (h2 : Ints .u64 w vb l) (h3 : Ints .u8 w da ds) (h4 : Ints .u8 w db ds) :
    Calls Try.prog 19 #[.agg (msgX ty xid va da), .agg (msgX ty xid vb db)] w fun e w' => e = .returned (.bool true) ∧ Below w.heap.size w w' :=
  same_msgL ty xid va vb da db l ds L0 L0 w rfl rfl h1 h2 h3 h4
theorem why_X (ty xid : Int) (v : Value) (nums : List Int) (ad : Option Addr) (nd cd : Nat) (w : World) (h : Ints .u64 w v nums) :
    Calls Try.prog 27 #[.agg (msgX ty xid v (.slice ad nd cd))] w fun e w' => e = .returned (.tuple #[.int .i64 (whyS ty nums).1, .bool (whyS ty nums).2]) ∧ Below w.heap.size w w' :=
  why_go ty xid v nums ad nd cd L0 w h

/-- What For hands back. -/
def GotFor (w : World) (ty x : Int) (l d : List Int) (ok : Bool) (r : Ending) (w' : World) : Prop :=
  ∃ vn vd, r = .returned (.tuple #[.agg (msgX ty x vn vd), .bool ok]) ∧ Ints .u64 w' vn l ∧ Ints .u8 w' vd d ∧ Below w.heap.size w w'

theorem for_both (bs : List Int) (e : Int) (hl : bs.length ≤ 3000) (he : (Lit.int .i64 e).wf = true) : ∃ (ty x : Int) (l d : List Int) (ok : Bool),
    (∀ w va, Ints .u8 w va bs → Calls Try.prog 25 #[va, .int .i64 e] w (GotFor w ty x l d ok)) ∧
    (∀ w va, Ints .u8 w va bs → Calls Try.prog 26 #[va, .int .i64 e] w (GotFor w ty x l d ok)) ∧
    (ok = true → whyS ty l = (e, true) ∧ d.length ≤ 64) := by
  cases hb : forB bs e with
  | false =>
    refine ⟨0, 0, [], [], false, fun w va h => ?_, fun w va h => ?_, fun h => by cases h⟩
    · exact (for_go_no va bs e w h hl he hb).mono fun r w' ⟨h1, h2⟩ => ⟨_, _, h1, Ints.nil _ _, Ints.nil _ _, h2⟩
    · exact (for_ref_no va bs e w h hl hb).mono fun r w' ⟨h1, h2⟩ => ⟨_, _, h1, Ints.nil _ _, Ints.nil _ _, h2⟩
  | true =>
    refine ⟨1, (hdOf bs).1.x, [(pairS e).1.1, (pairS e).1.2], bs.take 64, true, fun w va h => for_go_yes va bs e w h hl he hb, fun w va h => for_ref_yes va bs e w h hl hb, fun _ => ⟨?_, by rw [List.length_take]; omega⟩⟩
    rw [forB, Bool.and_eq_true] at hb
    have hbd := pairS_bd hb.1
    have hq : whyS 1 [(pairS e).1.1, (pairS e).1.2] = makeS (pairS e).1.1 (pairS e).1.2 := if_pos (by simp; omega)
    rw [hq, pair_make hb.1]

theorem walk_RefuseFrames (v1 : Value) (bs : List Int) (e : Int) (v : Value) (m : MsgV) (w : World) (h1 : Ints .u8 w v1 bs) (he : (Lit.int .i64 e).wf = true) (h3 : MsgOk w v m) :
    Calls Try.prog 7 #[v1, .int .i64 e, v] w fun e w' => e = .returned (.bool true) ∧ Below w.heap.size w w' := by
  have hle := h1.le
  have HFw := fun (w' : World) (hb : Below w.heap.size w w') => Lib.hid (few_msg (h3.since hb))
  obtain ⟨an, cn, ad, cd, rfl, hn, hd⟩ := h3.cut
  have H2 := Lib.hid h1
  obtain ⟨a2, cap2, b2, off2, rfl, -⟩ := h1.open
  have HN := Lib.hid hn
  have HF := HFw (w.alloc (.cells (msgL m.ty m.xid (.slice an m.nums.length cn) (.slice ad m.ds.length cd) m.L) 35)) (below_alloc2 _)
  clear hn hd h1
  by_cases g1 : 3000 < bs.length
  · clear HF HFw
    go_enter Try.func7, Try.ntmps7
    go_wp2_with fail
    (with_reducible refine (sure26 _).mono ?_)
    rintro e w2 ⟨rfl, hb⟩
    have HB2 := Lib.hid (below1 hb)
    clear hb
    go_wp2_with fail
    go_ret
    exact ⟨rfl, HB2.out⟩
  obtain ⟨ty, x, l, d, ok, hg, hr, hok⟩ := for_both bs e (by omega) he
  have HG := fun w h => Lib.hid (hg w (.slice a2 bs.length cap2) h)
  have HR := fun w h => Lib.hid (hr w (.slice a2 bs.length cap2) h)
  have HK := Lib.hid hok
  clear hg hr hok
  go_enter Try.func7, Try.ntmps7
  go_wp2_with fail
  (with_reducible refine HF.out.mono ?_)
  rintro e1 w1 ⟨⟨bf, rfl, -⟩, hb⟩
  have HB1 := Lib.hid (below1 hb)
  have HH1 := Lib.hid ((hb.block w.heap.size (by simp)).trans (heap_alloc_new _ _))
  clear hb
  cases bf
  case false =>
    go_wp2_with fail
    (with_reducible refine (sure26 _).mono ?_)
    rintro e w2 ⟨rfl, hb⟩
    have HB2 := Lib.hid (HB1.out.trans (hb.mono HB1.out.size))
    clear hb
    go_wp2_with fail
    go_ret
    exact ⟨rfl, HB2.out⟩
  have HG1 := HG w1 (H2.out.below HB1.out)
  go_wp2_with fail
  (with_reducible refine HG1.out.mono ?_)
  rintro e1 w2 ⟨vn, vd, rfl, hn, hd, hb⟩
  have HA2 := Lib.hid hn
  have HD2 := Lib.hid hd
  obtain ⟨aa, ca, ba, oa, rfl, -⟩ := hn.open
  obtain ⟨da, fa, bda, oda, rfl, -⟩ := hd.open
  have HB2 := Lib.hid (HB1.out.trans (hb.mono HB1.out.size))
  have HH2 := Lib.hid ((hb.block w.heap.size (Array.getElem?_eq_some_iff.1 HH1.out).1).trans HH1.out)
  have hs2 : Hid (w.heap.size < w2.heap.size) := (Array.getElem?_eq_some_iff.1 HH2.out).1
  clear hb hn hd
  have HB2a : Hid (Below w.heap.size w (w2.alloc (.cells (msgX ty x (.slice aa l.length ca) (.slice da d.length fa)) 35))) := HB2.out.alloc HB2.out.size _
  have HR2 := HR (w2.alloc (.cells (msgX ty x (.slice aa l.length ca) (.slice da d.length fa)) 35)) (H2.out.below HB2a.out)
  go_wp2_with fail
  (with_reducible refine HR2.out.mono ?_)
  rintro e1 w3 ⟨vn, vd, rfl, hn, hd, hb⟩
  have HA3 := Lib.hid ((HA2.out.alloc (.cells (msgX ty x (.slice aa l.length ca) (.slice da d.length fa)) 35)).below hb)
  have HD3 := Lib.hid ((HD2.out.alloc (.cells (msgX ty x (.slice aa l.length ca) (.slice da d.length fa)) 35)).below hb)
  have HE3 := Lib.hid hn
  have HF3 := Lib.hid hd
  obtain ⟨ab, cb, bb, ob, rfl, -⟩ := hn.open
  obtain ⟨db, fb, bdb, odb, rfl, -⟩ := hd.open
  have HB3 := Lib.hid (HB2a.out.trans (hb.mono HB2a.out.size))
  have HH3 := Lib.hid ((hb.block w.heap.size (by have := hs2.out; simp; omega)).trans (((below_alloc2 (.cells (msgX ty x (.slice aa l.length ca) (.slice da d.length fa)) 35)).block w.heap.size hs2.out).trans HH2.out))
  have HP3 := Lib.hid ((hb.block w2.heap.size (by simp)).trans (heap_alloc_new w2 (.cells (msgX ty x (.slice aa l.length ca) (.slice da d.length fa)) 35)))
  have hp3 : Hid (w2.heap.size < w3.heap.size) := (Array.getElem?_eq_some_iff.1 HP3.out).1
  clear hb hn hd
  have HB4 : Hid (Below w.heap.size w (w3.alloc (.cells (msgX ty x (.slice ab l.length cb) (.slice db d.length fb)) 35))) := HB3.out.alloc HB3.out.size _
  have HA4 := Lib.hid (HA3.out.alloc (.cells (msgX ty x (.slice ab l.length cb) (.slice db d.length fb)) 35))
  have HD4 := Lib.hid (HD3.out.alloc (.cells (msgX ty x (.slice ab l.length cb) (.slice db d.length fb)) 35))
  have HE4 := Lib.hid (HE3.out.alloc (.cells (msgX ty x (.slice ab l.length cb) (.slice db d.length fb)) 35))
  have HF4 := Lib.hid (HF3.out.alloc (.cells (msgX ty x (.slice ab l.length cb) (.slice db d.length fb)) 35))
  have HH4 := Lib.hid (((below_alloc2 (.cells (msgX ty x (.slice ab l.length cb) (.slice db d.length fb)) 35)).block w.heap.size (by have := hs2.out; have := hp3.out; show _ < w3.heap.size; omega)).trans HH3.out)
  have HP4 := Lib.hid (((below_alloc2 (.cells (msgX ty x (.slice ab l.length cb) (.slice db d.length fb)) 35)).block w2.heap.size hp3.out).trans HP3.out)
  have HQ4 := Lib.hid (heap_alloc_new w3 (.cells (msgX ty x (.slice ab l.length cb) (.slice db d.length fb)) 35))
  have hq4 : Hid (w3.heap.size < (w3.alloc (.cells (msgX ty x (.slice ab l.length cb) (.slice db d.length fb)) 35)).heap.size) := by show _ < _; simp
  have HW1 := Lib.hid (why_go m.ty m.xid _ m.nums ad m.ds.length cd m.L (w3.alloc (.cells (msgX ty x (.slice ab l.length cb) (.slice db d.length fb)) 35)) (HN.out.below HB4.out))
  have HW2 := fun w1 h => Lib.hid (why_ref m.ty m.xid (.slice an m.nums.length cn) m.nums ad m.ds.length cd m.L w1 h)
  generalize (whyS m.ty m.nums).1 = wf at HW1 HW2
  generalize (whyS m.ty m.nums).2 = wb at HW1 HW2
  have k0 := cell_heap HH4.out 0
  have k1 := cell_heap HH4.out 1
  have k2 := cell_heap HH4.out 2
  have k3 := cell_heap HH4.out 3
  have k4 := cell_heap HH4.out 4
  have k5 := cell_heap HH4.out 5
  have k6 := cell_heap HH4.out 6
  have k7 := cell_heap HH4.out 7
  have k8 := cell_heap HH4.out 8
  have k9 := cell_heap HH4.out 9
  have k10 := cell_heap HH4.out 10
  have k11 := cell_heap HH4.out 11
  have k12 := cell_heap HH4.out 12
  have k13 := cell_heap HH4.out 13
  have k14 := cell_heap HH4.out 14
  go_wp2_with fail
  (with_reducible refine HW1.out.mono ?_)
  rintro e1 w5 ⟨rfl, hb⟩
  have HB5 := Lib.hid (HB4.out.trans (hb.mono HB4.out.size))
  have HA5 := Lib.hid (HA4.out.below hb)
  have HD5 := Lib.hid (HD4.out.below hb)
  have HE5 := Lib.hid (HE4.out.below hb)
  have HF5 := Lib.hid (HF4.out.below hb)
  have HH5 := Lib.hid ((hb.block w.heap.size (Array.getElem?_eq_some_iff.1 HH4.out).1).trans HH4.out)
  have HP5 := Lib.hid ((hb.block w2.heap.size (Array.getElem?_eq_some_iff.1 HP4.out).1).trans HP4.out)
  have HQ5 := Lib.hid ((hb.block w3.heap.size hq4.out).trans HQ4.out)
  clear k0 k1 k2 k3 k4 k5 k6 k7 k8 k9 k10 k11 k12 k13 k14
  clear hb
  have k0 := cell_heap HH5.out 0
  have k1 := cell_heap HH5.out 1
  have k2 := cell_heap HH5.out 2
  have k3 := cell_heap HH5.out 3
  have k4 := cell_heap HH5.out 4
  have k5 := cell_heap HH5.out 5
  have k6 := cell_heap HH5.out 6
  have k7 := cell_heap HH5.out 7
  have k8 := cell_heap HH5.out 8
  have k9 := cell_heap HH5.out 9
  have k10 := cell_heap HH5.out 10
  have k11 := cell_heap HH5.out 11
  have k12 := cell_heap HH5.out 12
  have k13 := cell_heap HH5.out 13
  have k14 := cell_heap HH5.out 14
  have HW2 := HW2 w5 (HN.out.below HB5.out)
  go_wp2_with fail
  (with_reducible refine HW2.out.mono ?_)
  rintro e1 w6 ⟨rfl, hb⟩
  have HB6 := Lib.hid (HB5.out.trans (hb.mono HB5.out.size))
  have HA6 := Lib.hid (HA5.out.below hb)
  have HD6 := Lib.hid (HD5.out.below hb)
  have HE6 := Lib.hid (HE5.out.below hb)
  have HF6 := Lib.hid (HF5.out.below hb)
  have HP6 := Lib.hid ((hb.block w2.heap.size (Array.getElem?_eq_some_iff.1 HP5.out).1).trans HP5.out)
  have HQ6 := Lib.hid ((hb.block w3.heap.size (Array.getElem?_eq_some_iff.1 HQ5.out).1).trans HQ5.out)
  clear k0 k1 k2 k3 k4 k5 k6 k7 k8 k9 k10 k11 k12 k13 k14
  clear hb
  have j0 := cell_heap HP6.out 0
  have j1 := cell_heap HP6.out 1
  have j2 := cell_heap HP6.out 2
  have j3 := cell_heap HP6.out 3
  have j4 := cell_heap HP6.out 4
  have j5 := cell_heap HP6.out 5
  have j6 := cell_heap HP6.out 6
  have j7 := cell_heap HP6.out 7
  have j8 := cell_heap HP6.out 8
  have j9 := cell_heap HP6.out 9
  have j10 := cell_heap HP6.out 10
  have j11 := cell_heap HP6.out 11
  have j12 := cell_heap HP6.out 12
  have j13 := cell_heap HP6.out 13
  have j14 := cell_heap HP6.out 14
  have l0 := cell_heap HQ6.out 0
  have l1 := cell_heap HQ6.out 1
  have l2 := cell_heap HQ6.out 2
  have l3 := cell_heap HQ6.out 3
  have l4 := cell_heap HQ6.out 4
  have l5 := cell_heap HQ6.out 5
  have l6 := cell_heap HQ6.out 6
  have l7 := cell_heap HQ6.out 7
  have l8 := cell_heap HQ6.out 8
  have l9 := cell_heap HQ6.out 9
  have l10 := cell_heap HQ6.out 10
  have l11 := cell_heap HQ6.out 11
  have l12 := cell_heap HQ6.out 12
  have l13 := cell_heap HQ6.out 13
  have l14 := cell_heap HQ6.out 14
  have HS := Lib.hid (same_msgXX ty x _ _ _ _ l d w6 HA6.out HE6.out HD6.out HF6.out)
  have b1 : (ok != ok) = false := by simp
  have b2 : (wf != wf) = false := by simp
  have b3 : (wb != wb) = false := by simp
  go_wp2_with fail
  (with_reducible refine HS.out.mono ?_)
  rintro e1 w7 ⟨rfl, hb⟩
  have HB7 := Lib.hid (HB6.out.trans (hb.mono HB6.out.size))
  have HA7 := Lib.hid (HA6.out.below hb)
  have HP7 := Lib.hid ((hb.block w2.heap.size (Array.getElem?_eq_some_iff.1 HP6.out).1).trans HP6.out)
  clear j0 j1 j2 j3 j4 j5 j6 j7 j8 j9 j10 j11 j12 j13 j14
  clear l0 l1 l2 l3 l4 l5 l6 l7 l8 l9 l10 l11 l12 l13 l14
  clear hb
  cases ok
  case false =>
    go_wp2_with fail
    (with_reducible refine (sure26 _).mono ?_)
    rintro e w8 ⟨rfl, hb⟩
    have HB8 := Lib.hid (HB7.out.trans (hb.mono HB7.out.size))
    clear hb
    go_wp2_with fail
    go_ret
    exact ⟨rfl, HB8.out⟩
  obtain ⟨hw, hd64⟩ := HK.out rfl
  have HWx := Lib.hid (why_X ty x _ l da d.length fa w7 HA7.out)
  rw [hw] at HWx
  have hd64' : (d.length : Int) ≤ 64 := by omega
  clear hw
  have j0 := cell_heap HP7.out 0
  have j1 := cell_heap HP7.out 1
  have j2 := cell_heap HP7.out 2
  have j3 := cell_heap HP7.out 3
  have j4 := cell_heap HP7.out 4
  have j5 := cell_heap HP7.out 5
  have j6 := cell_heap HP7.out 6
  have j7 := cell_heap HP7.out 7
  have j8 := cell_heap HP7.out 8
  have j9 := cell_heap HP7.out 9
  have j10 := cell_heap HP7.out 10
  have j11 := cell_heap HP7.out 11
  have j12 := cell_heap HP7.out 12
  have j13 := cell_heap HP7.out 13
  have j14 := cell_heap HP7.out 14
  go_wp2_with fail
  (with_reducible refine HWx.out.mono ?_)
  rintro e1 w8 ⟨rfl, hb⟩
  have HB8 := Lib.hid (HB7.out.trans (hb.mono HB7.out.size))
  have HP8 := (hb.block w2.heap.size (Array.getElem?_eq_some_iff.1 HP7.out).1).trans HP7.out
  clear j0 j1 j2 j3 j4 j5 j6 j7 j8 j9 j10 j11 j12 j13 j14
  have j3 := cell_heap HP8 3
  have he0 : (e == e) = true := by simp
  clear hb HP8
  go_wp2_with fail
  (with_reducible refine (sure26 _).mono ?_)
  rintro e1 w9 ⟨rfl, hb⟩
  have HB9 := Lib.hid (HB8.out.trans (hb.mono HB8.out.size))
  clear hb
  go_wp2_with fail
  go_ret
  exact ⟨rfl, HB9.out⟩
end Go.Proofs.Ytfaklenclhljhaa
