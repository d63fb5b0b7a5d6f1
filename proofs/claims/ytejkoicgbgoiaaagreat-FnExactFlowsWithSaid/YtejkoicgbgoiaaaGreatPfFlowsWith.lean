/- The row of laws.FnExactFlowsWith: whatever the input, the call returns true, and each argument reads as it did. No conditions. -/
import Derived.Test.YtejkoicgbgoiaaaGreatFm13
namespace Go.Proofs.YtejkoicgbgoiaaaGreat.fnExactFlowsWith
open Go.ChangeShapes Go.WideShapes Go.ChangeAt Go.RowKit Go.Joins

theorem cells50 : Tryz.prog.cellsOf 50 = 7 := by kernel_rfl
theorem cells103 : Tryz.prog.cellsOf 103 = 7 := by kernel_rfl
theorem cells112 : Tryz.prog.cellsOf 112 = 4 := by kernel_rfl
theorem cells25 : Tryz.prog.cellsOf 25 = 1 := by kernel_rfl
theorem cells2 : Tryz.prog.cellsOf 2 = 1 := by kernel_rfl
theorem cells70 : Tryz.prog.cellsOf 70 = 3 := by kernel_rfl
theorem cells4 : Tryz.prog.cellsOf 4 = 1 := by kernel_rfl
set_option maxRecDepth 100000 in
theorem lifted (os : Os) (started : os.Started) (H : Type) (enc : TypeId × Value → H) :
    ReturnsInHanded {} Tryz.checked os 5 .any (Rows.fnExactFlowsWithSpec.pre6 enc Tryz.prog Tryz.f5 Rows.fnExactFlowsWithRow.domain false) (Rows.fnExactFlowsWithSpec.post enc Tryz.prog Tryz.f5 false true false false) := by
  refine returnsInHanded_of_change (C := Tryz.checked) own started (by kernel_rfl) Tryz.func5
    (ChangeSpec.witness6 (enc := enc) (C := Tryz.checked) false ⟨#[], #[.agg #[.int .i64 0, .slice none 0 0, .slice none 0 0, .slice none 0 0, .slice none 0 0, .slice none 0 0, .int .i64 0], .slice none 0 0], []⟩ 8 (by kernel_rfl) (by kernel_rfl) (by kernel_rfl) (by kernel_rfl)) ?_
  intro W base args ds gs before hval0 hW _ _
  have hval : ∀ (j : Nat) t v, Tryz.f5.params[j]? = some t → args[j]? = some v → Value.okWide Tryz.prog W .any base t v := hval0
  have hW' := hW
  have hlt := hW.lt
  obtain ⟨p, q, hA0, hV, rfl, _, _⟩ := hW
  have hA : DataW.TrodAll enc Tryz.prog W 0 (fun _ => true) true Tryz.f5.params.toList args.toList ds p := hA0
  rw [Tryz.params5] at hA hval
  obtain ⟨v0, vs0, d0, ds0, p0, q0, hargs, rfl, rfl, h0, r0⟩ := trodAll_cons hA
  obtain ⟨v1, vs1, d1, ds1, p1, q1, rfl, rfl, rfl, h1, r1⟩ := trodAll_cons r0
  obtain ⟨rfl, rfl, rfl⟩ := trodAll_nil r1
  obtain rfl : args = #[v0, v1] := by cases args; simp_all
  obtain ⟨rfl, rfl⟩ := trodVars_none hV
  obtain ⟨x0, I0, w0⟩ := open_plant Tryz.underlying50 ⟨rfl, rfl, rfl, rfl, rfl, rfl⟩ ⟨by kernel_rfl, by kernel_rfl, by kernel_rfl, by kernel_rfl, by kernel_rfl, by kernel_rfl⟩ cells50 ⟨rfl, rfl, rfl, rfl, rfl⟩ Tryz.underlying24 (by kernel_rfl) Tryz.underlying2 rfl Tryz.underlying22 Tryz.underlying103 Tryz.underlying9 Tryz.underlying2 Tryz.underlying2 Tryz.underlying2 Tryz.underlying2 Tryz.underlying2 Tryz.underlying2 (by kernel_rfl) cells103 Tryz.underlying47 Tryz.underlying112 Tryz.underlying9 Tryz.underlying2 Tryz.underlying2 Tryz.underlying2 (by kernel_rfl) cells112 Tryz.underlying48 Tryz.underlying25 Tryz.underlying2 cells25 cells2 Tryz.underlying26 Tryz.underlying70 Tryz.underlying9 Tryz.underlying2 rfl (by kernel_rfl) cells70 Tryz.underlying25 Tryz.underlying2 (hval 0 50 v0 rfl rfl) h0 (fun p hp => hlt p (by simp [hp]))
  obtain ⟨A1, c1, x1, rfl, I1, l1⟩ := open_bools_at Tryz.underlying51 Tryz.underlying4 cells4 (hval 1 51 v1 rfl rfl) h1 (fun p hp => hlt p (by simp [hp]))
  refine (fnExactFlowsWith_walk v0 x0 w0 I0 A1 c1 x1 I1 l1).mono fun e W' ⟨he, hb⟩ => ?_
  subst he
  exact ⟨_, rfl, post_true hW' rfl laidOut (fun t ht => by rw [Tryz.params5] at ht; simp only [List.mem_cons, List.not_mem_nil, or_false] at ht; rcases ht with rfl | rfl <;> exact ⟨by kernel_rfl, of_decide_eq_true (by kernel_rfl)⟩) rfl Tryz.underlying4 rfl hb⟩

theorem proved : Rows.FnExactFlowsWithSaid :=
  OpenClaim.holds_of_wide 5 Tryz.f5 rfl rfl rfl rfl rfl rfl rfl ⟨rfl, rfl, rfl, rfl, rfl⟩ rfl rfl rfl rfl rfl (by kernel_rfl) Tryz.func5 (by kernel_rfl)
    (of_decide_eq_true (by kernel_rfl)) (by unfold Func.isWrapper; first | (rw [if_pos (by decide +kernel)]; kernel_rfl) | (rw [if_neg (by decide +kernel)]; exact ⟨rfl, rfl⟩))
    (fun os started H enc _ => lifted os started H enc)
#print axioms proved
end Go.Proofs.YtejkoicgbgoiaaaGreat.fnExactFlowsWith
