/- slices.Clone of structs; what stands while a copy is made deep; the walk of queue.Copy. Conditions: at most 10^6 elements. The walk of queue.Copy. Conditions: not too many queues and properties. A world in which integers have been written where integers stood, and nothing else; what an owned list of queues gives to one who writes. Conditions: none beyond each lemma's own. -/
import Derived.Test.YtoobcgakainelaaZQueR
import Derived.Laws.OwnMore
import Derived.Test.YtoobcgakainelaaZQueS
namespace Go.Proofs.Ytoobcgakainelaa
open Go Go.RowKit

theorem PrpR.one {w : World} {x : Prp} {c : List Value} (h : PrpR w x c) : ∀ u ∈ c, u.oneCell' = true := by
  obtain ⟨dv, rfl, hd, -⟩ := h
  obtain ⟨a, cap, b, off, rfl, -⟩ := hd.open
  simp [Value.oneCell']
theorem QueR.one {w : World} {x : Que} {c : List Value} (h : QueR w x c) : ∀ u ∈ c, u.oneCell' = true := by
  obtain ⟨pv, rfl, hd, -⟩ := h
  obtain ⟨a, cap, b, off, rfl, -⟩ := prps_open hd
  simp [Value.oneCell']

/-- The cells of such a slice, one behind the other. -/
theorem rows_cells {α : Type} {R : World → α → List Value → Prop} (hR1 : ∀ {w x c}, R w x c → ∀ u ∈ c, u.oneCell' = true) {C : Nat} (hC : 0 < C) {w : World} {v : Value} {l : List α} (h : RowsOf R C w v l) :
    ∃ xs : List Value, xs.length = l.length * C ∧ Sl w v l.length xs ∧ (∀ u ∈ xs, u.oneCell' = true) ∧ ∀ i x, l[i]? = some x → ∃ c : List Value, c.length = C ∧ R w x c ∧ ∀ j u, c[j]? = some u → xs[i * C + j]? = some u := by
  obtain ⟨a, cap, b, off, h1, h2, h3, h4, h5, h6⟩ := h
  have key : ∀ k, k < l.length * C → ∃ u, u.oneCell' = true ∧ w.cell? ⟨b, off + k, none⟩ = some u := fun k hk => by
    have hi : k / C < l.length := Nat.div_lt_of_lt_mul (by rw [Nat.mul_comm]; exact hk)
    obtain ⟨c, hc, hr, hcell⟩ := h6 (k / C) _ (List.getElem?_eq_getElem hi)
    have hj : k % C < c.length := by rw [hc]; exact Nat.mod_lt _ hC
    have := hcell (k % C) _ (List.getElem?_eq_getElem hj)
    refine ⟨c[k % C], hR1 hr _ (List.getElem_mem hj), ?_⟩
    rw [← this, Nat.add_assoc, Nat.div_add_mod' k C]
  refine ⟨(List.range (l.length * C)).map (fun k => (w.cell? ⟨b, off + k, none⟩).getD undef), by simp, ⟨a, cap, b, off, h1, h2, h3, h4, h5, fun i hi => ?_⟩, fun u hu => ?_, fun i x hx => ?_⟩
  · simp only [List.length_map, List.length_range] at hi
    obtain ⟨u, -, hu⟩ := key i hi
    rw [hu]
    simp [List.getD, hi, hu]
  · obtain ⟨k, hk, rfl⟩ := List.mem_map.1 hu
    obtain ⟨u, h1, h2⟩ := key k (List.mem_range.1 hk)
    rw [h2]
    exact h1
  · obtain ⟨c, hc, hr, hcell⟩ := h6 i x hx
    refine ⟨c, hc, hr, fun j u hu => ?_⟩
    have hi := (List.getElem?_eq_some_iff.1 hx).1
    have hj := (List.getElem?_eq_some_iff.1 hu).1
    have hlt : i * C + j < l.length * C := by
      have : (i + 1) * C ≤ l.length * C := Nat.mul_le_mul_right C hi
      rw [Nat.add_mul] at this
      omega
    have := hcell j u hu
    rw [List.getElem?_map, List.getElem?_range hlt]
    simp only [Option.map_some]
    rw [← Nat.add_assoc, this]
    rfl

/-- What slices.Clone hands back: the same cells, in a row of its own. -/
def GotClone {α : Type} (R : α → List Value → Prop) (e0 C : Nat) (w : World) (l : List α) (e : Ending) (w' : World) : Prop :=
  ∃ v', e = .returned v' ∧ OutG (fun _ _ x c => R x c) e0 C w.heap.size w' v' l ∧ Below w.heap.size w w'

set_option maxRecDepth 100000
set_option maxHeartbeats 4000000
theorem clone_props {v : Value} {l : List Prp} {w0 w : World} (h : RowsOf PrpR 3 w0 v l) (hb0 : Below w0.heap.size w0 w) (hl : l.length ≤ 1000000) : Calls Try.prog 65 #[v] w (GotClone (PrpR w0) 81 3 w l) := by
  have q : ∀ (w : World) (a : Option Addr) (n c n' c' : Nat), (binOp .eql 77 (.slice a n c) (.slice none n' c')).run Try.prog w = .ok (.bool a.isNone) w := fun w a n c n' c' => Lib.run_eql_slice_nil w _ _ a n c n' c' Try.underlying77
  obtain ⟨xs, hxl, hsl, h1, hx⟩ := rows_cells PrpR.one (by decide) h
  obtain ⟨a, cap, b, off, rfl, hcap, hmx, hn, -⟩ := prps_open h
  have HX := Lib.hid hx
  have HS := Lib.hid hsl
  have HL := Lib.hid hxl
  have H1 := Lib.hid h1
  cases a with
  | none =>
    have h0 := hn rfl
    subst h0
    have h0 : l.length = 0 := by omega
    obtain rfl := List.eq_nil_of_length_eq_zero h0
    clear h hsl h1 hx hxl hn hmx hcap HX HS HL H1
    go_enter Try.func65, Try.ntmps65
    go_wp2_with fail
    go_ret
    exact ⟨_, rfl, OutG.nil _ _ _ _ _, Below.refl _ _⟩
  | some a =>
    have HO := Lib.hid (own_made0 w w.heap.size 81 3 (Nat.le_refl _))
    have HB := Lib.hid (below_alloc2 (w := w) (.cells #[] 81))
    have HS' := Lib.hid ((hsl.below hb0).below HB.out)
    have hs : w.heap.size ≤ (w.alloc (.cells #[] 81)).heap.size := by simp
    clear h hsl h1 hx hxl hn hmx hb0
    go_enter Try.func65, Try.ntmps65
    go_wp2_with (at_builtin; refine wpList_append_sl rfl _ _ _ rfl w.heap.size 81 (.agg #[.int .i64 0, .int .u64 0, .slice none 0 0]) 3 40 Try.underlying77 info_prop rfl (by decide) (.slice (some ⟨w.heap.size, 0, none⟩) 0 0) 0 _ rfl HO.out (.slice (some a) l.length cap) l.length xs rfl HL.out HS'.out H1.out (by unfold maxLen; omega) (by omega) hs ?_; intro v' w' hown hgrow hvb; rw [Nat.zero_add, List.nil_append] at hown; have HO2 := Lib.hid hown; have HB2 := Lib.hid (own_grown HB.out hs HO.out hgrow rfl); obtain ⟨a2, cap2, rfl⟩ := own_slice hown; clear hown hgrow hvb)
    go_ret
    exact ⟨_, rfl, ⟨xs, HO2.out, HX.out⟩, HB2.out⟩
theorem clone_ques {v : Value} {l : List Que} {w0 w : World} (h : RowsOf QueR 3 w0 v l) (hb0 : Below w0.heap.size w0 w) (hl : l.length ≤ 1000000) : Calls Try.prog 64 #[v] w (GotClone (QueR w0) 79 3 w l) := by
  have q : ∀ (w : World) (a : Option Addr) (n c n' c' : Nat), (binOp .eql 54 (.slice a n c) (.slice none n' c')).run Try.prog w = .ok (.bool a.isNone) w := fun w a n c n' c' => Lib.run_eql_slice_nil w _ _ a n c n' c' Try.underlying54
  obtain ⟨xs, hxl, hsl, h1, hx⟩ := rows_cells QueR.one (by decide) h
  obtain ⟨a, cap, b, off, rfl, hcap, hmx, hn, -⟩ := ques_open h
  have HX := Lib.hid hx
  have HS := Lib.hid hsl
  have HL := Lib.hid hxl
  have H1 := Lib.hid h1
  cases a with
  | none =>
    have h0 := hn rfl
    subst h0
    have h0 : l.length = 0 := by omega
    obtain rfl := List.eq_nil_of_length_eq_zero h0
    clear h hsl h1 hx hxl hn hmx hcap HX HS HL H1
    go_enter Try.func64, Try.ntmps64
    go_wp2_with fail
    go_ret
    exact ⟨_, rfl, OutG.nil _ _ _ _ _, Below.refl _ _⟩
  | some a =>
    have HO := Lib.hid (own_made0 w w.heap.size 79 3 (Nat.le_refl _))
    have HB := Lib.hid (below_alloc2 (w := w) (.cells #[] 79))
    have HS' := Lib.hid ((hsl.below hb0).below HB.out)
    have hs : w.heap.size ≤ (w.alloc (.cells #[] 79)).heap.size := by simp
    clear h hsl h1 hx hxl hn hmx hb0
    go_enter Try.func64, Try.ntmps64
    go_wp2_with (at_builtin; refine wpList_append_sl rfl _ _ _ rfl w.heap.size 79 (.agg #[.int .u64 0, .int .u64 0, .slice none 0 0]) 3 40 Try.underlying54 info_queue rfl (by decide) (.slice (some ⟨w.heap.size, 0, none⟩) 0 0) 0 _ rfl HO.out (.slice (some a) l.length cap) l.length xs rfl HL.out HS'.out H1.out (by unfold maxLen; omega) (by omega) hs ?_; intro v' w' hown hgrow hvb; rw [Nat.zero_add, List.nil_append] at hown; have HO2 := Lib.hid hown; have HB2 := Lib.hid (own_grown HB.out hs HO.out hgrow rfl); obtain ⟨a2, cap2, rfl⟩ := own_slice hown; clear hown hgrow hvb)
    go_ret
    exact ⟨_, rfl, ⟨xs, HO2.out, HX.out⟩, HB2.out⟩

/-! ### a row whose first elements are own already -/
def Mix {α : Type} (E : Nat → World → α → List Value → Prop) (R : α → List Value → Prop) (e C L : Nat) (W : World) (v : Value) (l : List α) (k : Nat) : Prop :=
  ∃ xs : List Value, W.ownsRow L e C v l.length xs ∧ ∀ i x, l[i]? = some x → ∃ c : List Value, c.length = C ∧ ((i < k ∧ E L W x c) ∨ (k ≤ i ∧ R x c)) ∧ ∀ j u, c[j]? = some u → xs[i * C + j]? = some u
section
variable {α : Type} {E : Nat → World → α → List Value → Prop} {R : α → List Value → Prop} {T : TypeId → Prop} {e C L k : Nat} {W W' : World} {v : Value} {l : List α}
theorem Mix.start (h : OutG (fun _ _ x c => R x c) e C L W v l) : Mix E R e C L W v l 0 := by
  obtain ⟨xs, ho, hx⟩ := h
  refine ⟨xs, ho, fun i x hi => ?_⟩
  obtain ⟨c, h1, h2, h3⟩ := hx i x hi
  exact ⟨c, h1, .inr ⟨Nat.zero_le _, h2⟩, h3⟩
theorem Mix.done (h : Mix E R e C L W v l l.length) : OutG E e C L W v l := by
  obtain ⟨xs, ho, hx⟩ := h
  refine ⟨xs, ho, fun i x hi => ?_⟩
  obtain ⟨c, h1, h2, h3⟩ := hx i x hi
  have := (List.getElem?_eq_some_iff.1 hi).1
  rcases h2 with ⟨-, h2⟩ | ⟨h2, -⟩
  · exact ⟨c, h1, h2, h3⟩
  · omega
theorem Mix.slice (h : Mix E R e C L W v l k) : ∃ a cap, v = .slice a l.length cap := by
  obtain ⟨xs, ho, -⟩ := h; exact own_slice ho
theorem Mix.kept (hK : Kind E T) (h : Mix E R e C L W v l k) {row : Option Nat} (hg : W.grownBy W' row) (hn : ∀ t, T t ∨ t = e → NotTy W row t) : Mix E R e C L W' v l k := by
  obtain ⟨xs, ho, hx⟩ := h
  refine ⟨xs, own_kept ho hg (hn e (.inr rfl)), fun i x hi => ?_⟩
  obtain ⟨c, h1, h2, h3⟩ := hx i x hi
  exact ⟨c, h1, h2.imp (fun h => ⟨h.1, hK.kept h.2 hg (fun t ht => hn t (.inl ht))⟩) id, h3⟩
theorem Mix.below (hK : Kind E T) (h : Mix E R e C L W v l k) (hb : Below W.heap.size W W') : Mix E R e C L W' v l k := h.kept hK (grown_of_below hb none) (fun _ _ => NotTy.none _ _)
theorem Mix.next {xs : List Value} (hxs : ∀ i x, l[i]? = some x → ∃ c : List Value, c.length = C ∧ ((i < k ∧ E L W x c) ∨ (k ≤ i ∧ R x c)) ∧ ∀ j u, c[j]? = some u → xs[i * C + j]? = some u)
    {x : α} {c : List Value} {j0 : Nat} {u : Value} (hx : l[k]? = some x) (hc : c.length = C) (hj0 : j0 < C) (hcell : ∀ j u, c[j]? = some u → xs[k * C + j]? = some u) (hkeep : ∀ x c, E L W x c → E L W' x c)
    (ho : W'.ownsRow L e C v l.length (xs.set (k * C + j0) u)) (hE : E L W' x (c.set j0 u)) : Mix E R e C L W' v l (k + 1) := by
  have hlen := ho.1
  rw [List.length_set] at hlen
  refine ⟨_, ho, fun i y hi => ?_⟩
  rcases Nat.lt_trichotomy i k with h | h | h
  · obtain ⟨d, h1, h2, h3⟩ := hxs i y hi
    refine ⟨d, h1, .inl ⟨by omega, ?_⟩, fun j u' hj => ?_⟩
    · rcases h2 with ⟨-, h2⟩ | ⟨h2, -⟩
      · exact hkeep _ _ h2
      · omega
    · have hj' := (List.getElem?_eq_some_iff.1 hj).1
      have : (i + 1) * C ≤ k * C := Nat.mul_le_mul_right C h
      rw [Nat.add_mul] at this
      rw [List.getElem?_set_ne (by omega)]
      exact h3 j u' hj
  · subst h
    obtain rfl : x = y := by rw [hx] at hi; injection hi
    refine ⟨c.set j0 u, by simpa using hc, .inl ⟨by omega, hE⟩, fun j u' hj => ?_⟩
    by_cases hjj : j = j0
    · subst hjj
      have hlt : i * C + j < xs.length := by
        have h1 := (List.getElem?_eq_some_iff.1 hx).1
        have : (i + 1) * C ≤ l.length * C := Nat.mul_le_mul_right C h1
        rw [Nat.add_mul] at this
        omega
      rw [List.getElem?_set_self (by omega)] at hj
      rw [List.getElem?_set_self hlt]
      exact hj
    · rw [List.getElem?_set_ne (by omega)] at hj
      rw [List.getElem?_set_ne (by omega)]
      exact hcell j u' hj
  · obtain ⟨d, h1, h2, h3⟩ := hxs i y hi
    refine ⟨d, h1, .inr ⟨by omega, ?_⟩, fun j u' hj => ?_⟩
    · rcases h2 with ⟨h2, -⟩ | ⟨-, h2⟩
      · omega
      · exact h2
    · have : (k + 1) * C ≤ i * C := Nat.mul_le_mul_right C h
      rw [Nat.add_mul] at this
      rw [List.getElem?_set_ne (by omega)]
      exact h3 j u' hj
end
end Go.Proofs.Ytoobcgakainelaa
namespace Go.Proofs.Ytoobcgakainelaa
open Go Go.RowKit
set_option maxRecDepth 100000
set_option maxHeartbeats 8000000

/-- What queue.Copy hands back. -/
def GotCopy (l : List Que) (w : World) (e : Ending) (w' : World) : Prop := ∃ v', e = .returned v' ∧ OutQ w.heap.size w' v' l ∧ Below w.heap.size w w'
theorem set3 {a b c u : Value} : [a, b, c].set 2 u = [a, b, u] := rfl

theorem que_copy {v : Value} {l : List Que} {w : World} (h : RowsOf QueR 3 w v l) (hf : fewL l) : Calls Try.prog 38 #[v] w (GotCopy l w) := by
  have HC := Lib.hid (clone_ques h (Below.refl _ _) (by have := hf.1; omega))
  have HF := Lib.hid hf
  have H := Lib.hid h
  have hl4 : l.length ≤ 10000 := hf.1
  obtain ⟨a, cap, b, off, rfl, -⟩ := ques_open h
  clear h hf
  unfold GotClone at HC
  unfold GotCopy
  go_enter Try.func38, Try.ntmps38
  go_wp2_with fail
  refine HC.out.mono ?_
  rintro e w1 ⟨vo, rfl, ho, hb⟩
  have HM1 := Lib.hid (Mix.start (E := QueO) ho)
  have HB1 := Lib.hid hb
  obtain ⟨ao, co, rfl⟩ := OutG.slice ho
  clear ho hb HC
  go_wp2_with fail
  go_loopw [10] (fun i wr => ∃ k : Nat, k ≤ l.length ∧ i = .int .i64 k ∧ Hid (Mix QueO (QueR w) 79 3 w.heap.size wr (.slice ao l.length co) l k) ∧ Hid (Below w.heap.size w wr)) (fun i _ => l.length - (intOf i).toNat)
  case atStart => exact ⟨0, by omega, rfl, HM1.out, HB1.out⟩
  case round =>
    obtain ⟨wi, rfl⟩ : ∃ wi : World, wi = wr := ⟨_, rfl⟩
    obtain ⟨k, hk, rfl, HM, HB⟩ := hrel
    by_cases hlt : k < l.length
    · obtain ⟨⟨n, m, ps⟩, hx⟩ : ∃ x, l[k]? = some x := ⟨_, List.getElem?_eq_getElem hlt⟩
      obtain ⟨xs, ho, hxs⟩ := HM.out
      obtain ⟨go, co', e1, -, -⟩ := own_pos ho (by omega)
      injection e1 with e1 _ e2
      subst e1 e2
      obtain ⟨c, hc3, hc, hcell⟩ := hxs k _ hx
      have hc : QueR w (n, m, ps) c := by
        rcases hc with ⟨h, -⟩ | ⟨-, h⟩
        · omega
        · exact h
      obtain ⟨pv, rfl, hp, hwn, hwm⟩ := hc
      have hfp : fewP ps := HF.out.2 _ (List.mem_of_getElem? hx)
      have hp4 : ps.length ≤ 10000 := hfp.1
      have hx2 : xs[k * 3 + 2]? = some pv := hcell 2 _ rfl
      have x2 : wi.cell? ⟨go, k * 3 + 2, none⟩ = some pv := (ho.cellAt (k * 3 + 2) (by omega)).trans hx2
      have z2 := ho.frozenAt (k * 3 + 2)
      have HO := Lib.hid ho
      have HXs := Lib.hid hxs
      have HCell := Lib.hid hcell
      have HX := Lib.hid hx
      have HW := Lib.hid (And.intro hwn hwm)
      have HFp := Lib.hid hfp
      have HCp := Lib.hid (clone_props (l := ps) hp HB.out (by omega))
      unfold GotClone at HCp
      obtain ⟨ap, cp, bp, op, rfl, -⟩ := prps_open hp
      have e3 : decide ((k : Int) < (l.length : Int)) = true := decide_eq_true (by omega)
      clear hp hwn hwm hx hxs hcell ho hx2 hfp HM
      go_wp2_with fail
      refine HCp.out.mono ?_
      rintro e w2 ⟨vp, rfl, hop, hb⟩
      have HMp := Lib.hid (Mix.start (E := PrpO) hop)
      obtain ⟨ap2, cp2, rfl⟩ := OutG.slice hop
      have ho2 := own_below HO.out hb
      have x2' : w2.cell? ⟨go, k * 3 + 2, none⟩ = some (.slice ap ps.length cp) := (hb.cell (World.block_lt_of_cell? _ _ x2)).trans x2
      have z2' := ho2.frozenAt (k * 3 + 2)
      have hst := ho2.stored (k * 3 + 2) (.slice ap2 ps.length cp2)
      have HO3 := Lib.hid hst.1
      have HG3 := Lib.hid (grown_trans (grown_of_below hb (some go)) hst.2)
      have HB3 := Lib.hid (below_row (HB.out.trans (hb.mono HB.out.size)) (HB.out.trans (hb.mono HB.out.size)).size hst.2 (HO.out.lt go rfl).1)
      have hty : ∀ t, 79 ≠ t → NotTy w2 (some go) t := fun t ht => NotTy.of_own (v := .slice (some ⟨go, 0, none⟩) l.length co) ho2 ht
      have HM3 := Lib.hid (HMp.out.kept PrpO.kind hst.2 (fun t ht => hty t (by rcases ht with rfl | rfl <;> decide)))
      clear hb hop ho2 hst x2 z2 hty HCp
      go_wp2_with fail
      generalize (w2.setCell ⟨go, k * 3 + 2, none⟩ (.slice ap2 ps.length cp2)) = w3 at HO3 HG3 HB3 HM3 ⊢
      go_loopw [29] (fun i wr => ∃ j : Nat, j ≤ ps.length ∧ i = .int .i64 j ∧ Hid (wi.grownBy wr (some go)) ∧ Hid (wr.ownsRow w.heap.size 79 3 (.slice (some ⟨go, 0, none⟩) l.length co) l.length (xs.set (k * 3 + 2) (.slice ap2 ps.length cp2))) ∧ Hid (Mix PrpO (PrpR w) 81 3 wi.heap.size wr (.slice ap2 ps.length cp2) ps j) ∧ Hid (Below w.heap.size w wr)) (fun i _ => ps.length - (intOf i).toNat)
      case atStart => exact ⟨0, by omega, rfl, HG3.out, HO3.out, HM3.out, HB3.out⟩
      case round =>
        obtain ⟨wj, rfl⟩ : ∃ wj : World, wj = wr := ⟨_, rfl⟩
        obtain ⟨j, hj, rfl, HGj, HOj, HMj, HBj⟩ := hrel
        have x2 : wj.cell? ⟨go, k * 3 + 2, none⟩ = some (.slice ap2 ps.length cp2) := (HOj.out.cellAt (k * 3 + 2) (by omega)).trans (by rw [List.getElem?_set_self (by have := HO.out.1; omega)])
        by_cases hjt : j < ps.length
        · obtain ⟨⟨t, z, bs⟩, hy⟩ : ∃ x, ps[j]? = some x := ⟨_, List.getElem?_eq_getElem hjt⟩
          obtain ⟨ys, hop, hys⟩ := HMj.out
          obtain ⟨gp, cp', e1, -, -⟩ := own_pos hop (by omega)
          injection e1 with e1 _ e2
          subst e1 e2
          obtain ⟨c, hc3, hc, hcell⟩ := hys j _ hy
          have hc : PrpR w (t, z, bs) c := by
            rcases hc with ⟨h, -⟩ | ⟨-, h⟩
            · omega
            · exact h
          obtain ⟨dv, rfl, hd, hwt, hwz⟩ := hc
          have hbl : bs.length ≤ 10000 := HFp.out.2 (t, z, bs) (List.mem_of_getElem? hy)
          have HU := Lib.hid hd.u8
          have y2 : wj.cell? ⟨gp, j * 3 + 2, none⟩ = some dv := (hop.cellAt (j * 3 + 2) (by omega)).trans (hcell 2 _ rfl)
          have f2 := hop.frozenAt (j * 3 + 2)
          have hgp := (hop.lt gp rfl)
          have HOp := Lib.hid hop
          have HYs := Lib.hid hys
          have HYc := Lib.hid hcell
          have HY := Lib.hid hy
          have HWt := Lib.hid (And.intro hwt hwz)
          have HGp := Lib.hid hgp
          have HBy := Lib.hid (bytes_clone (w := wj.drew) (bs := bs) (hd.below (below_drewN HBj.out 1)) (by omega))
          obtain ⟨ad, cd, bd, od, rfl, -⟩ := hd.open
          have e4 : decide ((j : Int) < (ps.length : Int)) = true := decide_eq_true (by omega)
          clear hop hys hcell hy hwt hwz hd hgp
          go_wp2_with fail
          go_region_law (go_simp; go_at_call 54; (with_reducible refine HBy.out.mono ?_); rintro e w5 ⟨vd, rfl, ho, hb⟩; obtain ⟨ad2, cd2, rfl⟩ := own_slice ho
                         have hbj : Below wj.heap.size wj w5 := ⟨hb.os, hb.tape, hb.output, hb.size, hb.block⟩
                         have HB5 := Lib.hid hbj
                         have HD5 := Lib.hid ho
                         have x3 : w5.cell? ⟨go, k * 3 + 2, none⟩ = some (.slice (some ⟨gp, 0, none⟩) ps.length cp2) := (hbj.cell (World.block_lt_of_cell? _ _ x2)).trans x2
                         have y3 : w5.cell? ⟨gp, j * 3 + 2, none⟩ = some (.slice ad bs.length cd) := (hbj.cell (World.block_lt_of_cell? _ _ y2)).trans y2
                         have f3 := (own_below HOp.out hbj).frozenAt (j * 3 + 2)
                         clear ho hb hbj)
          all_goals
            go_wp2_with fail
            go_roundw
            case rel =>
              have hop5 := own_below HOp.out HB5.out
              have hst := hop5.stored (j * 3 + 2) (.slice ad2 bs.length cd2)
              have hty : ∀ t, 81 ≠ t → NotTy w5 (some gp) t := fun t ht => NotTy.of_own (v := .slice (some ⟨gp, 0, none⟩) ps.length cp2) hop5 ht
              refine ⟨j + 1, by omega, by go_num, grown_row (grown_row HGj.out (grown_of_below HB5.out none) (fun _ e => by cases e)) hst.2 (fun k e => by injection e with e; have := HGp.out.1; omega), own_kept (own_below HOj.out HB5.out) hst.2 (hty _ (by decide)), ?_, below_row (HBj.out.trans (HB5.out.mono HBj.out.size)) (HBj.out.trans (HB5.out.mono HBj.out.size)).size hst.2 (Nat.le_trans HB.out.size HGp.out.1)⟩
              refine Mix.next (W := wj) HYs.out HY.out rfl (by decide) HYc.out (fun x c hE => PrpO.kind.kept (PrpO.kind.kept hE (grown_of_below HB5.out none) (fun _ _ => NotTy.none _ _)) hst.2 (fun t ht => hty t (by rw [ht]; decide))) hst.1 ⟨_, set3, own_kept (own_base HD5.out HGj.out.size) hst.2 (hty _ (by decide)), HU.out, HWt.out.1, HWt.out.2⟩
            case measure => simp [intOf]; omega
        · obtain rfl : j = ps.length := by omega
          have e4 : decide ((ps.length : Int) < (ps.length : Int)) = false := decide_eq_false (by omega)
          go_wp2_with fail
          go_roundw
          case rel =>
            exact ⟨k + 1, by omega, by go_num, Mix.next (W := wi) HXs.out HX.out rfl (by decide) HCell.out (fun x c hE => QueO.kind.kept hE HGj.out (fun t ht => NotTy.of_own (v := .slice (some ⟨go, 0, none⟩) l.length co) HO.out (by rcases ht with rfl | rfl <;> decide))) HOj.out ⟨_, set3, OutG.low PrpO.kind (Mix.done HMj.out) HB.out.size, HW.out.1, HW.out.2⟩, HBj.out⟩
          case measure => simp [intOf]; omega
    · obtain rfl : k = l.length := by omega
      have e3 : decide ((l.length : Int) < (l.length : Int)) = false := decide_eq_false (by omega)
      go_wp2_with fail
      go_ret
      exact ⟨_, rfl, Mix.done HM.out, HB.out⟩
end Go.Proofs.Ytoobcgakainelaa
namespace Go.Proofs.Ytoobcgakainelaa
open Go Go.RowKit

/-- From W0 to W only integers have been written, over integers of the same kind, in blocks from L on, below U. -/
structure Sim (L U : Nat) (W0 W : World) : Prop where
  size : W.heap.size = W0.heap.size
  os : W.os = W0.os
  tape : W.tape = W0.tape
  output : W.output = W0.output
  out : ∀ k, (k < L ∨ U ≤ k) → W.heap[k]? = W0.heap[k]?
  num : ∀ p K y, W0.cell? p = some (.int K y) → ∃ y', W.cell? p = some (.int K y')
  oth : ∀ p v, (∀ K y, v ≠ .int K y) → W0.cell? p = some v → W.cell? p = some v
  frz : ∀ p, W.frozen? p = W0.frozen? p
theorem Sim.refl (L U : Nat) (W : World) : Sim L U W W := ⟨rfl, rfl, rfl, rfl, fun _ _ => rfl, fun _ _ y h => ⟨y, h⟩, fun _ _ _ h => h, fun _ => rfl⟩
theorem Sim.drew {L U : Nat} {W0 W : World} (h : Sim L U W0 W) (q : Nat) : Sim L U W0 (W.drewN q) := ⟨h.size, h.os, h.tape, h.output, h.out, h.num, h.oth, h.frz⟩
theorem Sim.store {L U : Nat} {W0 W : World} (h : Sim L U W0 W) {b o : Nat} {K : IntKind} {y : Int} (hb : L ≤ b ∧ b < U) (hc : W0.cell? ⟨b, o, none⟩ = some (.int K y)) (x : Int) : Sim L U W0 (W.setCell ⟨b, o, none⟩ (.int K x)) where
  size := by rw [← h.size]; simp
  os := h.os
  tape := h.tape
  output := h.output
  out := fun k hk => (heap_setCell_other W ⟨b, o, none⟩ k _ (fun e => by simp only at e; omega)).trans (h.out k hk)
  num := fun p K' y' hp => by
    by_cases he : (⟨b, o, none⟩ : Addr) = p
    · subst he
      rw [hc] at hp
      injection hp with hp
      injection hp with h1 h2
      subst h1
      obtain ⟨z, hz⟩ := h.num _ _ _ hc
      exact ⟨x, World.cell?_setCell_same _ _ _ hz⟩
    · obtain ⟨z, hz⟩ := h.num _ _ _ hp
      exact ⟨z, (World.cell?_setCell_other _ _ _ _ he).trans hz⟩
  oth := fun p v hv hp => by
    by_cases he : (⟨b, o, none⟩ : Addr) = p
    · subst he
      rw [hc] at hp
      injection hp with hp
      exact absurd hp.symm (hv K y)
    · exact (World.cell?_setCell_other _ _ _ _ he).trans (h.oth _ _ hv hp)
  frz := fun p => by rw [World.frozen?_setCell]; exact h.frz p
theorem Sim.below {L U : Nat} {W0 W : World} (h : Sim L U W0 W) : Below L W0 W := ⟨h.os, h.tape, h.output, Nat.le_of_eq h.size.symm, fun k hk => h.out k (.inl hk)⟩
theorem Sim.agree {L U : Nat} {W0 W : World} (h : Sim L U W0 W) : Agree U W0 W := ⟨Nat.le_of_eq h.size.symm, fun k hk _ => h.out k (.inr hk)⟩
theorem Sim.sl {L U : Nat} {W0 W : World} (h : Sim L U W0 W) {p : Addr} {a : Option Addr} {n c : Nat} (hp : W0.cell? p = some (.slice a n c)) : W.cell? p = some (.slice a n c) := h.oth _ _ (fun _ _ e => by cases e) hp

theorem ques_own {L : Nat} {W : World} {v : Value} {l : List Que} (h : OutQ L W v l) (h0 : 0 < l.length) :
    ∃ g cap, v = .slice (some ⟨g, 0, none⟩) l.length cap ∧ (L ≤ g ∧ g < W.heap.size) ∧ (∀ o, W.frozen? ⟨g, o, none⟩ = false) ∧
      ∀ i n m ps, l[i]? = some (n, m, ps) → ∃ pv, W.cell? ⟨g, i * 3, none⟩ = some (.int .u64 n) ∧ W.cell? ⟨g, i * 3 + 2, none⟩ = some pv ∧ OutP L W pv ps := by
  obtain ⟨xs, ho, hx⟩ := h
  obtain ⟨g, cap, rfl, -, -⟩ := own_pos ho h0
  refine ⟨g, cap, rfl, ho.lt g rfl, fun o => ho.frozenAt o, fun i n m ps hi => ?_⟩
  obtain ⟨c, hc, ⟨pv, rfl, hp, -⟩, hcell⟩ := hx i _ hi
  have hlt := (List.getElem?_eq_some_iff.1 hi).1
  refine ⟨pv, ?_, ?_, hp⟩
  · have := (ho.cellAt (i * 3 + 0) (by omega)).trans (hcell 0 _ rfl)
    rwa [Nat.add_zero] at this
  · exact (ho.cellAt (i * 3 + 2) (by omega)).trans (hcell 2 _ rfl)
theorem props_own' {L : Nat} {W : World} {v : Value} {l : List Prp} (h : OutP L W v l) (h0 : 0 < l.length) :
    ∃ g cap, v = .slice (some ⟨g, 0, none⟩) l.length cap ∧ (L ≤ g ∧ g < W.heap.size) ∧ (∀ o, W.frozen? ⟨g, o, none⟩ = false) ∧
      ∀ i t n bs, l[i]? = some (t, n, bs) → ∃ dv, W.cell? ⟨g, i * 3, none⟩ = some (.int .i64 t) ∧ W.cell? ⟨g, i * 3 + 2, none⟩ = some dv ∧ W.ownsRow L 5 1 dv bs.length (bs.map (Value.int .u8)) := by
  obtain ⟨xs, ho, hx⟩ := h
  obtain ⟨g, cap, rfl, -, -⟩ := own_pos ho h0
  refine ⟨g, cap, rfl, ho.lt g rfl, fun o => ho.frozenAt o, fun i t n bs hi => ?_⟩
  obtain ⟨c, hc, ⟨dv, rfl, hp, -⟩, hcell⟩ := hx i _ hi
  have hlt := (List.getElem?_eq_some_iff.1 hi).1
  refine ⟨dv, ?_, ?_, hp⟩
  · have := (ho.cellAt (i * 3 + 0) (by omega)).trans (hcell 0 _ rfl)
    rwa [Nat.add_zero] at this
  · exact (ho.cellAt (i * 3 + 2) (by omega)).trans (hcell 2 _ rfl)
theorem bytes_own {L : Nat} {W : World} {v : Value} {bs : List Int} (h : W.ownsRow L 5 1 v bs.length (bs.map (Value.int .u8))) (h0 : 0 < bs.length) :
    ∃ g cap, v = .slice (some ⟨g, 0, none⟩) bs.length cap ∧ (L ≤ g ∧ g < W.heap.size) ∧ (∀ o, W.frozen? ⟨g, o, none⟩ = false) ∧ ∀ i, i < bs.length → ∃ y, W.cell? ⟨g, i, none⟩ = some (.int .u8 y) := by
  obtain ⟨g, cap, rfl, -, -⟩ := own_pos h h0
  refine ⟨g, cap, rfl, h.lt g rfl, fun o => h.frozenAt o, fun i hi => ⟨bs.getD i 0, (h.cellAt i (by omega)).trans ?_⟩⟩
  simp [List.getD, hi]
/-- The numbers of a list that is read. -/
theorem wf_u64_bd {n : Int} (h : (Lit.int .u64 n).wf = true) : 0 ≤ n ∧ n < 18446744073709551616 := by
  simp [Lit.wf, IntKind.min, IntKind.max, IntKind.signed, IntKind.bits] at h; omega
end Go.Proofs.Ytoobcgakainelaa
