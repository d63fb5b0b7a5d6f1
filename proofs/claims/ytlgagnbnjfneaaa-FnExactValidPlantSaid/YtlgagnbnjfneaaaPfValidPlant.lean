/- The row of laws.FnExactValidPlant: whatever the input, the call returns true, and each argument reads as it did. No conditions. -/
import Derived.Test.YtlgagnbnjfneaaaFrame
import Derived.Test.YtlgagnbnjfneaaaFrame6
import Derived.Test.YtlgagnbnjfneaaaPlantL
namespace Go.Proofs.Ytlgagnbnjfneaaa.fnExactValidPlant
open Go.ChangeShapes Go.WideShapes Go.ChangeAt Go.RowKit Go.Joins

theorem cells56 : Try.prog.cellsOf 56 = 7 := by kernel_rfl
theorem cells116 : Try.prog.cellsOf 116 = 7 := by kernel_rfl
theorem cells140 : Try.prog.cellsOf 140 = 4 := by kernel_rfl
theorem cells25 : Try.prog.cellsOf 25 = 1 := by kernel_rfl
theorem cells2 : Try.prog.cellsOf 2 = 1 := by kernel_rfl
theorem cells143 : Try.prog.cellsOf 143 = 3 := by kernel_rfl
set_option maxRecDepth 100000 in
theorem lifted (os : Os) (started : os.Started) (H : Type) (enc : TypeId × Value → H) :
    ReturnsInHanded {} Try.checked os 9 .any (Rows.fnExactValidPlantSpec.pre6 enc Try.prog Try.f9 Rows.fnExactValidPlantRow.domain false) (Rows.fnExactValidPlantSpec.post enc Try.prog Try.f9 false true false false) := by
  refine returnsInHanded_of_change (C := Try.checked) own started (by kernel_rfl) Try.func9
    (ChangeSpec.witness6 (enc := enc) (C := Try.checked) false ⟨#[], #[.agg #[.int .i64 0, .slice none 0 0, .slice none 0 0, .slice none 0 0, .slice none 0 0, .slice none 0 0, .int .i64 0]], []⟩ 8 (by kernel_rfl) (by kernel_rfl) (by kernel_rfl) (by kernel_rfl)) ?_
  intro W base args ds gs before hval0 hW _ _
  have hval : ∀ (j : Nat) t v, Try.f9.params[j]? = some t → args[j]? = some v → Value.okWide Try.prog W .any base t v := hval0
  have hW' := hW
  have hlt := hW.lt
  obtain ⟨p, q, hA0, hV, rfl, _, _⟩ := hW
  have hA : DataW.TrodAll enc Try.prog W 0 (fun _ => true) true Try.f9.params.toList args.toList ds p := hA0
  rw [Try.params9] at hA hval
  obtain ⟨v0, vs0, d0, ds0, p0, q0, hargs, rfl, rfl, h0, r0⟩ := trodAll_cons hA
  obtain ⟨rfl, rfl, rfl⟩ := trodAll_nil r0
  obtain rfl : args = #[v0] := by cases args; simp_all
  obtain ⟨rfl, rfl⟩ := trodVars_none hV
  obtain ⟨x0, I0, w0⟩ := open_plant Try.underlying56 ⟨rfl, rfl, rfl, rfl, rfl, rfl⟩ ⟨by kernel_rfl, by kernel_rfl, by kernel_rfl, by kernel_rfl, by kernel_rfl, by kernel_rfl⟩ cells56 ⟨rfl, rfl, rfl, rfl, rfl⟩ Try.underlying24 (by kernel_rfl) Try.underlying2 rfl Try.underlying22 Try.underlying116 Try.underlying9 Try.underlying2 Try.underlying2 Try.underlying2 Try.underlying2 Try.underlying2 Try.underlying2 (by kernel_rfl) cells116 Try.underlying52 Try.underlying140 Try.underlying9 Try.underlying2 Try.underlying2 Try.underlying2 (by kernel_rfl) cells140 Try.underlying53 Try.underlying25 Try.underlying2 cells25 cells2 Try.underlying54 Try.underlying143 Try.underlying9 Try.underlying2 rfl (by kernel_rfl) cells143 Try.underlying25 Try.underlying2 (hval 0 56 v0 rfl rfl) h0 (fun p hp => hlt p (by simp [hp]))
  refine (fnExactValidPlant_walk v0 x0 w0 I0).mono fun e W' ⟨he, hb⟩ => ?_
  subst he
  exact ⟨_, rfl, post_true hW' rfl laidOut (fun t ht => by rw [Try.params9] at ht; simp only [List.mem_cons, List.not_mem_nil, or_false] at ht; subst ht; exact ⟨by kernel_rfl, of_decide_eq_true (by kernel_rfl)⟩) rfl Try.underlying4 rfl hb⟩

theorem proved : Rows.FnExactValidPlantSaid :=
  OpenClaim.holds_of_wide 9 Try.f9 rfl rfl rfl rfl rfl rfl rfl ⟨rfl, rfl, rfl, rfl, rfl⟩ rfl rfl rfl rfl rfl (by kernel_rfl) Try.func9 (by kernel_rfl)
    (of_decide_eq_true (by kernel_rfl)) (by unfold Func.isWrapper; first | (rw [if_pos (by decide +kernel)]; kernel_rfl) | (rw [if_neg (by decide +kernel)]; exact ⟨rfl, rfl⟩))
    (fun os started H enc _ => lifted os started H enc)
#print axioms proved
end Go.Proofs.Ytlgagnbnjfneaaa.fnExactValidPlant
