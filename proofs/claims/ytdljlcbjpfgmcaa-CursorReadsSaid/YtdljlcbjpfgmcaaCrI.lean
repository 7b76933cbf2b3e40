/- The walk of law 02's op of any operation, and of its few. Conditions: none beyond each lemma's own. -/
import Derived.Test.YtdljlcbjpfgmcaaCrH
import Derived.Test.YtdljlcbjpfgmcaaFrameOps
namespace Go.Proofs.Ytdljlcbjpfgmcaa
open Go.RowKit
set_option maxRecDepth 100000
set_option maxHeartbeats 4000000

theorem num_same2 (s : St) (n : Int) : (s.num n).1.bs = s.bs ∧ (s.num n).1.sh = s.sh := by
  unfold St.num
  split
  · exact ⟨(fail_pos s 10001).2.1, (fail_pos s 10001).2.2.1⟩
  · exact ⟨(row_same s [n]).1, (row_same s [n]).2.1⟩

/-- What op hands back: it goes on with the same cursor over the same bytes, or with another. -/
def OpAny (B : Nat × Nat) (w : World) (p : Nat) (vB : Value) (s : St) (e : Ending) (w' : World) : Prop :=
  (∃ s' : St, s'.bs = s.bs ∧ s'.sh = s.sh ∧ OpOn B w p vB s' e w') ∨ (∃ l, OpNew w p l e w')

theorem op_any (B : Nat × Nat) (p : Nat) (s : St) (kind n : Int) (vB vw : Value) (ws : List Int) (w : World) (hc : Cur B w p s) (hB : B.2 ≤ w.heap.size) (hd : Ints .u8 w vB s.bs) (hfr : s.bs = [] ∨ ∀ k, vB.ownBlock = some k → k ≠ p) (hsh : s.sh ≠ 0) (hw : Ints .i64 w vw ws) (hn : (Lit.int .i64 n).wf = true) :
    Calls Try.prog 44 #[.pointer (some ⟨p, 0, none⟩), .agg (docA vB s), .agg #[.int .i64 kind, .int .i64 n, vw]] w (OpAny B w p vB s) := by
  by_cases h0 : kind = 0
  · subst h0
    exact (op_num B p s n vB vw ws w hc hB hd hsh hw hn).mono fun e w' h => .inl ⟨_, (num_same2 s n).1, (num_same2 s n).2, h⟩
  by_cases h1 : kind = 1
  · subst h1
    exact (op_row B p s n vB vw ws w hc hB hd hsh hw hn).mono fun e w' h => .inl ⟨_, (row_same s ws).1, (row_same s ws).2.1, h⟩
  by_cases h2 : kind = 2
  · subst h2
    exact (op_bytes B p s n vB vw ws w hc hB hd hsh hw hn).mono fun e w' h => .inl ⟨_, (bytes_same2 s n).1, (bytes_same2 s n).2.1, h⟩
  by_cases h3 : kind = 3
  · subst h3
    exact (op_rest B p s n vB vw ws w hc hB hd hsh hw hn).mono fun e w' h => .inl ⟨_, (bytes_same2 s s.left).1, (bytes_same2 s s.left).2.1, h⟩
  by_cases h4 : kind = 4
  · subst h4
    cases ht : s.takes n with
    | false => exact (op_sub_no B p s n vB vw ws w hc hB hd hsh hw hn ht).mono fun e w' h => .inl ⟨_, (bytes_same2 s n).1, (bytes_same2 s n).2.1, h⟩
    | true => exact (op_sub_yes B p s n vB vw ws w hc hB hd hsh hw hn hfr ht).mono fun e w' h => .inr ⟨_, h⟩
  exact (op_fail B p s kind n vB vw ws w hc hB hd hfr hw h0 h1 h2 h3 h4).mono fun e w' h => .inl ⟨_, (fail_pos s n).2.1, (fail_pos s n).2.2.1, h⟩

/-- few answers; yes: at most 2000 bytes. -/
def FewB (m : Nat) (w : World) (e : Ending) (w' : World) : Prop := ∃ b, e = .returned (.bool b) ∧ (b = true → m ≤ 2000) ∧ w' = w

theorem few02 (v1 v2 : Value) (bs : List Int) (l : List OpV) (w : World) (h1 : Ints .u8 w v1 bs) (h2 : OpsOk w v2 l) :
    Calls Try.prog 42 #[v1, v2] w (FewB bs.length w) := by
  have hle1 := h1.le
  obtain ⟨a1, cap1, b1, off1, rfl, -⟩ := h1.open
  obtain ⟨a, cap, b, off, rfl, hc1, hc2, ha, hcell⟩ := h2.sl
  have HI := Lib.hid h2.ints
  have HA := Lib.hid ha
  have HC := Lib.hid hcell
  have hle : l.length ≤ 9223372036854775807 := by unfold maxLen at hc2; omega
  clear h1 h2 ha hcell
  go_enter Try.func42, Try.ntmps42
  go_wp2
  go_loopw [4, 5] (fun r i wi => ∃ (k : Nat), k ≤ l.length ∧ i = .int .i64 k ∧ r = .bool false ∧ wi = w) (fun _ i _ => l.length - (intOf i).toNat)
  case atStart => exact ⟨0, Nat.zero_le _, rfl, rfl, rfl⟩
  case round =>
    obtain ⟨k, hk, rfl, rfl, rfl⟩ := hrel
    by_cases hlt : k < l.length
    · obtain rfl := HA.out (by omega)
      obtain ⟨o, ho⟩ : ∃ o, l[k]? = some o := ⟨l[k], List.getElem?_eq_getElem hlt⟩
      obtain ⟨-, -, c2⟩ := HC.out k o ho
      obtain ⟨aw, cw, bw, ow, ew, -⟩ := (HI.out o (List.mem_iff_getElem?.2 ⟨k, ho⟩)).open
      rw [ew] at c2
      have hlt' : (k : Int) < l.length := by omega
      clear ho ew
      go_wp2_with fail
      all_goals first
        | (go_ret; exact ⟨_, rfl, (fun h => by cases h), rfl⟩)
        | (go_roundw; (case rel => exact ⟨k + 1, by omega, by go_num, rfl, by trivial⟩); (case measure => simp [intOf]; omega))
    · obtain rfl : k = l.length := by omega
      by_cases h20 : bs.length ≤ 2000
      · have h20' : (bs.length : Int) ≤ 2000 := by omega
        go_wp2_with fail
        all_goals (go_ret; exact ⟨_, rfl, fun _ => h20, rfl⟩)
      · have h20' : ¬ (bs.length : Int) ≤ 2000 := by omega
        go_wp2_with fail
        all_goals (go_ret; exact ⟨_, rfl, (fun h => by cases h), rfl⟩)
end Go.Proofs.Ytdljlcbjpfgmcaa
