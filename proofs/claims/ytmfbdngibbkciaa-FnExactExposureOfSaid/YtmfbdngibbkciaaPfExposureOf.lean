/- The row of laws.FnExactExposureOf: whatever the input, the call returns true, and each argument reads as it did. No conditions. -/
import Derived.Test.YtmfbdngibbkciaaFrame
import Derived.Test.YtmfbdngibbkciaaFrame3
import Derived.Test.YtmfbdngibbkciaaFrame4
import Derived.Test.YtmfbdngibbkciaaExpo
namespace Go.Proofs.Ytmfbdngibbkciaa.fnExactExposureOf
open Go.ChangeShapes Go.WideShapes Go.ChangeAt Go.RowKit Go.Joins

theorem cells77 : Try.prog.cellsOf 77 = 4 := by kernel_rfl
theorem cells37 : Try.prog.cellsOf 37 = 1 := by kernel_rfl
theorem cells2 : Try.prog.cellsOf 2 = 1 := by kernel_rfl
set_option maxRecDepth 100000 in
theorem lifted (os : Os) (started : os.Started) (H : Type) (enc : TypeId × Value → H) :
    ReturnsInHanded {} Try.checked os 12 .any (Rows.fnExactExposureOfSpec.pre6 enc Try.prog Try.f12 Rows.fnExactExposureOfRow.domain false) (Rows.fnExactExposureOfSpec.post enc Try.prog Try.f12 false true false false) := by
  refine returnsInHanded_of_change (C := Try.checked) own started (by kernel_rfl) Try.func12
    (ChangeSpec.witness6 (enc := enc) (C := Try.checked) false ⟨#[], #[.slice none 0 0, .slice none 0 0], []⟩ 8 (by kernel_rfl) (by kernel_rfl) (by kernel_rfl) (by kernel_rfl)) ?_
  intro W base args ds gs before hval0 hW _ _
  have hval : ∀ (j : Nat) t v, Try.f12.params[j]? = some t → args[j]? = some v → Value.okWide Try.prog W .any base t v := hval0
  have hW' := hW
  have hlt := hW.lt
  obtain ⟨p, q, hA0, hV, rfl, _, _⟩ := hW
  have hA : DataW.TrodAll enc Try.prog W 0 (fun _ => true) true Try.f12.params.toList args.toList ds p := hA0
  rw [Try.params12] at hA hval
  obtain ⟨v0, vs0, d0, ds0, p0, q0, hargs, rfl, rfl, h0, r0⟩ := trodAll_cons hA
  obtain ⟨v1, vs1, d1, ds1, p1, q1, rfl, rfl, rfl, h1, r1⟩ := trodAll_cons r0
  obtain ⟨rfl, rfl, rfl⟩ := trodAll_nil r1
  obtain rfl : args = #[v0, v1] := by cases args; simp_all
  obtain ⟨rfl, rfl⟩ := trodVars_none hV
  obtain ⟨A0, c0, x0, rfl, I0, w0, l0⟩ := open_rows4_at Try.underlying30 Try.underlying77 Try.underlying2 Try.underlying2 Try.underlying2 Try.underlying2 (by kernel_rfl) cells77 (hval 0 30 v0 rfl rfl) h0 (fun p hp => hlt p (by simp [hp]))
  obtain ⟨A1, c1, x1, rfl, I1, w1, l1⟩ := open_intss_at Try.underlying62 Try.underlying37 Try.underlying2 cells37 cells2 (hval 1 62 v1 rfl rfl) h1 (fun p hp => hlt p (by simp [hp]))
  refine (fnExactExposureOf_walk A0 c0 x0 I0 w0 l0 A1 c1 x1 I1 w1 l1).mono fun e W' ⟨he, hb⟩ => ?_
  subst he
  exact ⟨_, rfl, post_true hW' rfl laidOut (fun t ht => by rw [Try.params12] at ht; simp only [List.mem_cons, List.not_mem_nil, or_false] at ht; rcases ht with rfl | rfl <;> exact ⟨by kernel_rfl, of_decide_eq_true (by kernel_rfl)⟩) rfl Try.underlying4 rfl hb⟩

theorem proved : Rows.FnExactExposureOfSaid :=
  OpenClaim.holds_of_wide 12 Try.f12 rfl rfl rfl rfl rfl rfl rfl ⟨rfl, rfl, rfl, rfl, rfl⟩ rfl rfl rfl rfl rfl (by kernel_rfl) Try.func12 (by kernel_rfl)
    (of_decide_eq_true (by kernel_rfl)) (by unfold Func.isWrapper; first | (rw [if_pos (by decide +kernel)]; kernel_rfl) | (rw [if_neg (by decide +kernel)]; exact ⟨rfl, rfl⟩))
    (fun os started H enc _ => lifted os started H enc)
#print axioms proved
end Go.Proofs.Ytmfbdngibbkciaa.fnExactExposureOf
