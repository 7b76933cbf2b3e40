/- Whether two arrays of eight numbers are the same, as the model compares them. Conditions: none. -/
import Derived.Test.YtcebcncpbedkmaaGreatZSamT
import Derived.Laws.StructEq
namespace Go.Proofs.YtcebcncpbedkmaaGreat
open Go Go.RowKit
set_option maxRecDepth 100000
set_option maxHeartbeats 4000000

theorem part_u64 (cs : Array Value) (o : Nat) (v : Value) (h : cs[o]? = some v) (w : World) : (part 68 cs o).run Tryz.prog w = .ok v w := by
  have ha : (isAgg 68).run Tryz.prog w = .ok false w := by kernel_rfl
  unfold part
  simp only [Sem.run_bind, ha, Result.andThen_ok, Bool.false_eq_true, if_false, h, Sem.run_pure]
theorem part_str (cs : Array Value) (o : Nat) (v : Value) (h : cs[o]? = some v) (w : World) : (part 9 cs o).run Tryz.prog w = .ok v w := by
  have ha : (isAgg 9).run Tryz.prog w = .ok false w := by kernel_rfl
  unfold part
  simp only [Sem.run_bind, ha, Result.andThen_ok, Bool.false_eq_true, if_false, h, Sem.run_pure]
theorem part_arr8 (cs : Array Value) (o : Nat) (w : World) : (part 95 cs o).run Tryz.prog w = .ok (.agg (cs.extract o (o + 8))) w := by
  have ha : (isAgg 95).run Tryz.prog w = .ok true w := by kernel_rfl
  have hs : (sizeOf 95).run Tryz.prog w = .ok 8 w := by kernel_rfl
  unfold part
  simp only [Sem.run_bind, ha, hs, Result.andThen_ok, if_true, Sem.run_pure]
theorem run_equalIn_arr8 (d : Nat) (a0 a1 a2 a3 a4 a5 a6 a7 b0 b1 b2 b3 b4 b5 b6 b7 : Int) (w : World) :
    (Op.equalIn (d + 2) 95 (.agg #[.int .u64 a0, .int .u64 a1, .int .u64 a2, .int .u64 a3, .int .u64 a4, .int .u64 a5, .int .u64 a6, .int .u64 a7]) (.agg #[.int .u64 b0, .int .u64 b1, .int .u64 b2, .int .u64 b3, .int .u64 b4, .int .u64 b5, .int .u64 b6, .int .u64 b7])).run Tryz.prog w = .ok (decide ([a0, a1, a2, a3, a4, a5, a6, a7] = [b0, b1, b2, b3, b4, b5, b6, b7])) w := by
  have pa0 := part_u64 #[.int .u64 a0, .int .u64 a1, .int .u64 a2, .int .u64 a3, .int .u64 a4, .int .u64 a5, .int .u64 a6, .int .u64 a7] 0 (.int .u64 a0) rfl w
  have pb0 := part_u64 #[.int .u64 b0, .int .u64 b1, .int .u64 b2, .int .u64 b3, .int .u64 b4, .int .u64 b5, .int .u64 b6, .int .u64 b7] 0 (.int .u64 b0) rfl w
  have pa1 := part_u64 #[.int .u64 a0, .int .u64 a1, .int .u64 a2, .int .u64 a3, .int .u64 a4, .int .u64 a5, .int .u64 a6, .int .u64 a7] 1 (.int .u64 a1) rfl w
  have pb1 := part_u64 #[.int .u64 b0, .int .u64 b1, .int .u64 b2, .int .u64 b3, .int .u64 b4, .int .u64 b5, .int .u64 b6, .int .u64 b7] 1 (.int .u64 b1) rfl w
  have pa2 := part_u64 #[.int .u64 a0, .int .u64 a1, .int .u64 a2, .int .u64 a3, .int .u64 a4, .int .u64 a5, .int .u64 a6, .int .u64 a7] 2 (.int .u64 a2) rfl w
  have pb2 := part_u64 #[.int .u64 b0, .int .u64 b1, .int .u64 b2, .int .u64 b3, .int .u64 b4, .int .u64 b5, .int .u64 b6, .int .u64 b7] 2 (.int .u64 b2) rfl w
  have pa3 := part_u64 #[.int .u64 a0, .int .u64 a1, .int .u64 a2, .int .u64 a3, .int .u64 a4, .int .u64 a5, .int .u64 a6, .int .u64 a7] 3 (.int .u64 a3) rfl w
  have pb3 := part_u64 #[.int .u64 b0, .int .u64 b1, .int .u64 b2, .int .u64 b3, .int .u64 b4, .int .u64 b5, .int .u64 b6, .int .u64 b7] 3 (.int .u64 b3) rfl w
  have pa4 := part_u64 #[.int .u64 a0, .int .u64 a1, .int .u64 a2, .int .u64 a3, .int .u64 a4, .int .u64 a5, .int .u64 a6, .int .u64 a7] 4 (.int .u64 a4) rfl w
  have pb4 := part_u64 #[.int .u64 b0, .int .u64 b1, .int .u64 b2, .int .u64 b3, .int .u64 b4, .int .u64 b5, .int .u64 b6, .int .u64 b7] 4 (.int .u64 b4) rfl w
  have pa5 := part_u64 #[.int .u64 a0, .int .u64 a1, .int .u64 a2, .int .u64 a3, .int .u64 a4, .int .u64 a5, .int .u64 a6, .int .u64 a7] 5 (.int .u64 a5) rfl w
  have pb5 := part_u64 #[.int .u64 b0, .int .u64 b1, .int .u64 b2, .int .u64 b3, .int .u64 b4, .int .u64 b5, .int .u64 b6, .int .u64 b7] 5 (.int .u64 b5) rfl w
  have pa6 := part_u64 #[.int .u64 a0, .int .u64 a1, .int .u64 a2, .int .u64 a3, .int .u64 a4, .int .u64 a5, .int .u64 a6, .int .u64 a7] 6 (.int .u64 a6) rfl w
  have pb6 := part_u64 #[.int .u64 b0, .int .u64 b1, .int .u64 b2, .int .u64 b3, .int .u64 b4, .int .u64 b5, .int .u64 b6, .int .u64 b7] 6 (.int .u64 b6) rfl w
  have pa7 := part_u64 #[.int .u64 a0, .int .u64 a1, .int .u64 a2, .int .u64 a3, .int .u64 a4, .int .u64 a5, .int .u64 a6, .int .u64 a7] 7 (.int .u64 a7) rfl w
  have pb7 := part_u64 #[.int .u64 b0, .int .u64 b1, .int .u64 b2, .int .u64 b3, .int .u64 b4, .int .u64 b5, .int .u64 b6, .int .u64 b7] 7 (.int .u64 b7) rfl w
  unfold Op.equalIn
  simp only [Sem.run_bind, run_underlying Tryz.underlying95, run_sizeOf (P := Tryz.prog) (e := 68) (z := some (.int .u64 0)) (size := 1) (bytes := 8) (by kernel_rfl), Result.andThen_ok, Nat.mul_one]
  rw [Std.Legacy.Range.forIn_eq_forIn_range', show List.range' [:8].start [:8].size [:8].step = [0, 1, 2, 3, 4, 5, 6, 7] from rfl]
  by_cases h0 : a0 = b0
  · subst h0
    by_cases h1 : a1 = b1
    · subst h1
      by_cases h2 : a2 = b2
      · subst h2
        by_cases h3 : a3 = b3
        · subst h3
          by_cases h4 : a4 = b4
          · subst h4
            by_cases h5 : a5 = b5
            · subst h5
              by_cases h6 : a6 = b6
              · subst h6
                by_cases h7 : a7 = b7
                · subst h7
                  simp [run_equalIn_int w d 68 .u64 .u64 _ _ Tryz.underlying68, pa0, pa1, pa2, pa3, pa4, pa5, pa6, pa7]
                · simp [run_equalIn_int w d 68 .u64 .u64 _ _ Tryz.underlying68, h7, pa0, pb0, pa1, pb1, pa2, pb2, pa3, pb3, pa4, pb4, pa5, pb5, pa6, pb6, pa7, pb7]
              · simp [run_equalIn_int w d 68 .u64 .u64 _ _ Tryz.underlying68, h6, pa0, pb0, pa1, pb1, pa2, pb2, pa3, pb3, pa4, pb4, pa5, pb5, pa6, pb6]
            · simp [run_equalIn_int w d 68 .u64 .u64 _ _ Tryz.underlying68, h5, pa0, pb0, pa1, pb1, pa2, pb2, pa3, pb3, pa4, pb4, pa5, pb5]
          · simp [run_equalIn_int w d 68 .u64 .u64 _ _ Tryz.underlying68, h4, pa0, pb0, pa1, pb1, pa2, pb2, pa3, pb3, pa4, pb4]
        · simp [run_equalIn_int w d 68 .u64 .u64 _ _ Tryz.underlying68, h3, pa0, pb0, pa1, pb1, pa2, pb2, pa3, pb3]
      · simp [run_equalIn_int w d 68 .u64 .u64 _ _ Tryz.underlying68, h2, pa0, pb0, pa1, pb1, pa2, pb2]
    · simp [run_equalIn_int w d 68 .u64 .u64 _ _ Tryz.underlying68, h1, pa0, pb0, pa1, pb1]
  · simp [run_equalIn_int w d 68 .u64 .u64 _ _ Tryz.underlying68, h0, pa0, pb0]

theorem run_eql_port {p q : PortV} {c d : List Value} {w : World} (h1 : PortR w p c) (h2 : PortR w q d) : (binOp .eql 97 (.agg c.toArray) (.agg d.toArray)).run Tryz.prog w = .ok (.bool (decide (p = q))) w := by
  obtain ⟨pno, phw, pna, pnu⟩ := p
  obtain ⟨qno, qhw, qna, qnu⟩ := q
  obtain ⟨xna, xnu0, xnu1, xnu2, xnu3, xnu4, xnu5, xnu6, xnu7, rfl, hxna, hxnu⟩ := h1
  obtain ⟨yna, ynu0, ynu1, ynu2, ynu3, ynu4, ynu5, ynu6, ynu7, rfl, hyna, hynu⟩ := h2
  dsimp only at *
  subst hxna hyna hxnu hynu
  have hu := Tryz.underlying97
  have p0 := part_u64 #[.int .u64 pno, .int .u64 phw, .string xna, .int .u64 xnu0, .int .u64 xnu1, .int .u64 xnu2, .int .u64 xnu3, .int .u64 xnu4, .int .u64 xnu5, .int .u64 xnu6, .int .u64 xnu7] 0 (.int .u64 pno) rfl w
  have q0 := part_u64 #[.int .u64 qno, .int .u64 qhw, .string yna, .int .u64 ynu0, .int .u64 ynu1, .int .u64 ynu2, .int .u64 ynu3, .int .u64 ynu4, .int .u64 ynu5, .int .u64 ynu6, .int .u64 ynu7] 0 (.int .u64 qno) rfl w
  have p1 := part_u64 #[.int .u64 pno, .int .u64 phw, .string xna, .int .u64 xnu0, .int .u64 xnu1, .int .u64 xnu2, .int .u64 xnu3, .int .u64 xnu4, .int .u64 xnu5, .int .u64 xnu6, .int .u64 xnu7] 1 (.int .u64 phw) rfl w
  have q1 := part_u64 #[.int .u64 qno, .int .u64 qhw, .string yna, .int .u64 ynu0, .int .u64 ynu1, .int .u64 ynu2, .int .u64 ynu3, .int .u64 ynu4, .int .u64 ynu5, .int .u64 ynu6, .int .u64 ynu7] 1 (.int .u64 qhw) rfl w
  have p2 := part_str #[.int .u64 pno, .int .u64 phw, .string xna, .int .u64 xnu0, .int .u64 xnu1, .int .u64 xnu2, .int .u64 xnu3, .int .u64 xnu4, .int .u64 xnu5, .int .u64 xnu6, .int .u64 xnu7] 2 (.string xna) rfl w
  have q2 := part_str #[.int .u64 qno, .int .u64 qhw, .string yna, .int .u64 ynu0, .int .u64 ynu1, .int .u64 ynu2, .int .u64 ynu3, .int .u64 ynu4, .int .u64 ynu5, .int .u64 ynu6, .int .u64 ynu7] 2 (.string yna) rfl w
  have p3 : (part 95 #[.int .u64 pno, .int .u64 phw, .string xna, .int .u64 xnu0, .int .u64 xnu1, .int .u64 xnu2, .int .u64 xnu3, .int .u64 xnu4, .int .u64 xnu5, .int .u64 xnu6, .int .u64 xnu7] 3).run Tryz.prog w = .ok (.agg #[.int .u64 xnu0, .int .u64 xnu1, .int .u64 xnu2, .int .u64 xnu3, .int .u64 xnu4, .int .u64 xnu5, .int .u64 xnu6, .int .u64 xnu7]) w := part_arr8 #[.int .u64 pno, .int .u64 phw, .string xna, .int .u64 xnu0, .int .u64 xnu1, .int .u64 xnu2, .int .u64 xnu3, .int .u64 xnu4, .int .u64 xnu5, .int .u64 xnu6, .int .u64 xnu7] 3 w
  have q3 : (part 95 #[.int .u64 qno, .int .u64 qhw, .string yna, .int .u64 ynu0, .int .u64 ynu1, .int .u64 ynu2, .int .u64 ynu3, .int .u64 ynu4, .int .u64 ynu5, .int .u64 ynu6, .int .u64 ynu7] 3).run Tryz.prog w = .ok (.agg #[.int .u64 ynu0, .int .u64 ynu1, .int .u64 ynu2, .int .u64 ynu3, .int .u64 ynu4, .int .u64 ynu5, .int .u64 ynu6, .int .u64 ynu7]) w := part_arr8 #[.int .u64 qno, .int .u64 qhw, .string yna, .int .u64 ynu0, .int .u64 ynu1, .int .u64 ynu2, .int .u64 ynu3, .int .u64 ynu4, .int .u64 ynu5, .int .u64 ynu6, .int .u64 ynu7] 3 w
  have k0 := run_equalIn_int (P := Tryz.prog) w 9998 68 .u64 .u64 pno qno Tryz.underlying68
  have k1 := run_equalIn_int (P := Tryz.prog) w 9998 68 .u64 .u64 phw qhw Tryz.underlying68
  have k2 := run_equalIn_string (P := Tryz.prog) w 9998 9 xna yna Tryz.underlying9
  have k3 := run_equalIn_arr8 9997 xnu0 xnu1 xnu2 xnu3 xnu4 xnu5 xnu6 xnu7 ynu0 ynu1 ynu2 ynu3 ynu4 ynu5 ynu6 ynu7 w
  rw [run_eql_struct, show (10000 : Nat) = 9999 + 1 from rfl, run_equalIn_agg _ 9999 _ _ _ (by unfold Program.fieldsOf; rw [hu]) (by kernel_rfl)]
  unfold Program.fieldsOf
  rw [hu]
  by_cases h0 : pno = qno
  · subst h0
    by_cases h1 : phw = qhw
    · subst h1
      by_cases h2 : xna.toList = yna.toList
      · by_cases h3 : ([xnu0, xnu1, xnu2, xnu3, xnu4, xnu5, xnu6, xnu7] : List Int) = [ynu0, ynu1, ynu2, ynu3, ynu4, ynu5, ynu6, ynu7]
        · simp [Op.eqFields, p0, q0, p1, q1, p2, q2, p3, q3, k0, k1, k2, k3, h2, h3]
        · simp [Op.eqFields, p0, q0, p1, q1, p2, q2, p3, q3, k0, k1, k2, k3, h2, h3]
      · simp [Op.eqFields, p0, q0, p1, q1, p2, q2, k0, k1, k2, h2]
    · simp [Op.eqFields, p0, q0, p1, q1, k0, k1, h1]
  · simp [Op.eqFields, p0, q0, k0, h0]
end Go.Proofs.YtcebcncpbedkmaaGreat
