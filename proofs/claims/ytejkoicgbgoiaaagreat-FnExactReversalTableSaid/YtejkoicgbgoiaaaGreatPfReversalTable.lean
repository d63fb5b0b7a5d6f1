/- The row of laws.FnExactReversalTable: whatever the input, the call returns true, and each argument reads as it did. No conditions. -/
import Derived.Test.YtejkoicgbgoiaaaGreatFl11
namespace Go.Proofs.YtejkoicgbgoiaaaGreat.fnExactReversalTable
open Go.ChangeShapes Go.WideShapes Go.ChangeAt Go.RowKit Go.Joins

theorem cells24 : Tryz.prog.cellsOf 24 = 2 := by kernel_rfl
theorem cells103 : Tryz.prog.cellsOf 103 = 7 := by kernel_rfl
theorem cells2 : Tryz.prog.cellsOf 2 = 1 := by kernel_rfl
theorem cells25 : Tryz.prog.cellsOf 25 = 1 := by kernel_rfl
theorem cells70 : Tryz.prog.cellsOf 70 = 3 := by kernel_rfl
set_option maxRecDepth 100000 in
theorem lifted (os : Os) (started : os.Started) (H : Type) (enc : TypeId × Value → H) :
    ReturnsInHanded {} Tryz.checked os 4 .any (Rows.fnExactReversalTableSpec.pre6 enc Tryz.prog Tryz.f4 Rows.fnExactReversalTableRow.domain false) (Rows.fnExactReversalTableSpec.post enc Tryz.prog Tryz.f4 false true false false) := by
  refine returnsInHanded_of_change (C := Tryz.checked) own started (by kernel_rfl) Tryz.func4
    (ChangeSpec.witness6 (enc := enc) (C := Tryz.checked) false ⟨#[], #[.agg #[.int .i64 0, .slice none 0 0], .slice none 0 0, .slice none 0 0, .slice none 0 0, .slice none 0 0, .int .i64 0, .int .i64 0, .int .i64 0, .int .i64 0, .int .i64 0], []⟩ 8 (by kernel_rfl) (by kernel_rfl) (by kernel_rfl) (by kernel_rfl)) ?_
  intro W base args ds gs before hval0 hW _ _
  have hval : ∀ (j : Nat) t v, Tryz.f4.params[j]? = some t → args[j]? = some v → Value.okWide Tryz.prog W .any base t v := hval0
  have hW' := hW
  have hlt := hW.lt
  obtain ⟨p, q, hA0, hV, rfl, _, _⟩ := hW
  have hA : DataW.TrodAll enc Tryz.prog W 0 (fun _ => true) true Tryz.f4.params.toList args.toList ds p := hA0
  rw [Tryz.params4] at hA hval
  obtain ⟨v0, vs0, d0, ds0, p0, q0, hargs, rfl, rfl, h0, r0⟩ := trodAll_cons hA
  obtain ⟨v1, vs1, d1, ds1, p1, q1, rfl, rfl, rfl, h1, r1⟩ := trodAll_cons r0
  obtain ⟨v2, vs2, d2, ds2, p2, q2, rfl, rfl, rfl, h2, r2⟩ := trodAll_cons r1
  obtain ⟨v3, vs3, d3, ds3, p3, q3, rfl, rfl, rfl, h3, r3⟩ := trodAll_cons r2
  obtain ⟨v4, vs4, d4, ds4, p4, q4, rfl, rfl, rfl, h4, r4⟩ := trodAll_cons r3
  obtain ⟨v5, vs5, d5, ds5, p5, q5, rfl, rfl, rfl, h5, r5⟩ := trodAll_cons r4
  obtain ⟨v6, vs6, d6, ds6, p6, q6, rfl, rfl, rfl, h6, r6⟩ := trodAll_cons r5
  obtain ⟨v7, vs7, d7, ds7, p7, q7, rfl, rfl, rfl, h7, r7⟩ := trodAll_cons r6
  obtain ⟨v8, vs8, d8, ds8, p8, q8, rfl, rfl, rfl, h8, r8⟩ := trodAll_cons r7
  obtain ⟨v9, vs9, d9, ds9, p9, q9, rfl, rfl, rfl, h9, r9⟩ := trodAll_cons r8
  obtain ⟨rfl, rfl, rfl⟩ := trodAll_nil r9
  obtain rfl : args = #[v0, v1, v2, v3, v4, v5, v6, v7, v8, v9] := by cases args; simp_all
  obtain ⟨rfl, rfl⟩ := trodVars_none hV
  obtain ⟨c0_0, c0_1, y0_0, y0_1, n0, rfl, rfl, rfl, hy0_0, hy0_1⟩ := open_agg2 Tryz.underlying24 (by kernel_rfl) cells24 (hval 0 24 v0 rfl rfl) h0
  obtain ⟨a0_0, e0_0, _, w0_0⟩ := DataW.trod_int Tryz.underlying2 hy0_0
  simp only [List.cons.injEq, and_true] at e0_0; subst e0_0
  obtain ⟨A0, c0, x0, rfl, I0, w0, l0⟩ := open_airways Tryz.underlying22 Tryz.underlying103 Tryz.underlying9 Tryz.underlying2 Tryz.underlying2 Tryz.underlying2 Tryz.underlying2 Tryz.underlying2 Tryz.underlying2 (by kernel_rfl) cells103 hy0_1 (fun p hp => hlt p (by simp [hp]))
  obtain ⟨A1, c1, x1, rfl, I1, w1, l1⟩ := open_ints_at Tryz.underlying25 Tryz.underlying2 cells2 (hval 1 25 v1 rfl rfl) h1 (fun p hp => hlt p (by simp [hp]))
  obtain ⟨A2, c2, x2, rfl, I2, w2, l2⟩ := open_fans_at Tryz.underlying26 Tryz.underlying70 Tryz.underlying9 Tryz.underlying2 rfl Tryz.underlying48 Tryz.underlying25 Tryz.underlying2 cells25 cells2 (by kernel_rfl) cells70 (hval 2 26 v2 rfl rfl) h2 (fun p hp => hlt p (by simp [hp]))
  obtain ⟨A3, c3, x3, rfl, I3, w3, l3⟩ := open_ints_at Tryz.underlying25 Tryz.underlying2 cells2 (hval 3 25 v3 rfl rfl) h3 (fun p hp => hlt p (by simp [hp]))
  obtain ⟨A4, c4, x4, rfl, I4, w4, l4⟩ := open_ints_at Tryz.underlying25 Tryz.underlying2 cells2 (hval 4 25 v4 rfl rfl) h4 (fun p hp => hlt p (by simp [hp]))
  obtain ⟨x5, rfl, rfl, rfl, w5⟩ := open_int Tryz.underlying2 (hval 5 2 v5 rfl rfl) h5
  obtain ⟨x6, rfl, rfl, rfl, w6⟩ := open_int Tryz.underlying2 (hval 6 2 v6 rfl rfl) h6
  obtain ⟨x7, rfl, rfl, rfl, w7⟩ := open_int Tryz.underlying2 (hval 7 2 v7 rfl rfl) h7
  obtain ⟨x8, rfl, rfl, rfl, w8⟩ := open_int Tryz.underlying2 (hval 8 2 v8 rfl rfl) h8
  obtain ⟨x9, rfl, rfl, rfl, w9⟩ := open_int Tryz.underlying2 (hval 9 2 v9 rfl rfl) h9
  refine (fnExactReversalTable_walk a0_0 A0 c0 x0 I0 w0 l0 A1 c1 x1 I1 w1 l1 A2 c2 x2 I2 w2 l2 A3 c3 x3 I3 w3 l3 A4 c4 x4 I4 w4 l4 x5 (bounds_i64 w5) x6 (bounds_i64 w6) x7 (bounds_i64 w7) x8 (bounds_i64 w8) x9 (bounds_i64 w9)).mono fun e W' ⟨he, hb⟩ => ?_
  subst he
  exact ⟨_, rfl, post_true hW' rfl laidOut (fun t ht => by rw [Tryz.params4] at ht; simp only [List.mem_cons, List.not_mem_nil, or_false] at ht; rcases ht with rfl | rfl | rfl | rfl | rfl | rfl | rfl | rfl | rfl | rfl <;> exact ⟨by kernel_rfl, of_decide_eq_true (by kernel_rfl)⟩) rfl Tryz.underlying4 rfl hb⟩

theorem proved : Rows.FnExactReversalTableSaid :=
  OpenClaim.holds_of_wide 4 Tryz.f4 rfl rfl rfl rfl rfl rfl rfl ⟨rfl, rfl, rfl, rfl, rfl⟩ rfl rfl rfl rfl rfl (by kernel_rfl) Tryz.func4 (by kernel_rfl)
    (of_decide_eq_true (by kernel_rfl)) (by unfold Func.isWrapper; first | (rw [if_pos (by decide +kernel)]; kernel_rfl) | (rw [if_neg (by decide +kernel)]; exact ⟨rfl, rfl⟩))
    (fun os started H enc _ => lifted os started H enc)
#print axioms proved
end Go.Proofs.YtejkoicgbgoiaaaGreat.fnExactReversalTable
