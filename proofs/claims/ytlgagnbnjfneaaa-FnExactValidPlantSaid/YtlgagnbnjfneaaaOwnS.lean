/- A copy of a list of numbers by the reference's own function. Conditions: the lengths that each theorem names. -/
import Derived.Test.YtlgagnbnjfneaaaRes
namespace Go.Proofs.Ytlgagnbnjfneaaa
open Go.RowKit
open Pl
set_option maxRecDepth 100000 in
theorem l00Own_any (ad : Addr) (c : Nat) (xs : List Int) (B : Nat) (w : World) (hn : xs.length ≤ 1048576) (hI : Ints B w (some ad) xs) :
    Calls Try.prog 103 #[.slice (some ad) xs.length c] w fun e w' => ∃ v, e = .returned v ∧ Own w.heap.size w' v xs ∧ Below w.heap.size w w' := by
  obtain ⟨i0, hi, hz0, hz1, hz2⟩ := info_parts infoI
  have J : Hid (∀ j u, (vals xs)[j]? = some u → w.cell? (ad.add j) = some u) := Lib.hid (by
    intro j u hj
    obtain ⟨hj', _⟩ := List.getElem?_eq_some_iff.1 hj
    rw [vals_length] at hj'
    rw [vals_get hj'] at hj
    injection hj with hj
    subst hj
    obtain ⟨ad', e, _, hc⟩ := hI.at_ hj'
    injection e with e
    subst e
    exact hc)
  clear hI
  have H1 : Hid (∀ u ∈ vals xs, u.oneCell' = true) := Lib.hid (by
    intro u hu
    unfold vals at hu
    obtain ⟨x, _, rfl⟩ := List.mem_map.1 hu
    rfl)
  have HF := Lib.hid (And.intro hi (And.intro hz0 (And.intro hz1 hz2)))
  clear hi hz0 hz1 hz2
  go_enter Try.func103, Try.ntmps103
  go_wp2_with (at_builtin; refine wpList_append_own _ rfl _ _ 25 rfl w.heap.size 2 i0 (.int .i64 0) 1 8 Try.underlying25 HF.out.1 HF.out.2.1 HF.out.2.2.1 HF.out.2.2.2 rfl (by decide) _ _ _ rfl (Own.empty (Nat.le_refl _)) ad xs.length c (vals xs) rfl ?qc1 ?qc2 ?qc3 ?qc4 ?qc5 ?qc6 ?_)
  case qc1 => rw [vals_length, Nat.mul_one]
  case qc2 => intro j u hj; exact Lib.cell?_alloc_some _ (J.out j u hj)
  case qc3 => exact H1.out
  case qc4 => exact le_max (by simp; omega)
  case qc5 => simp; omega
  case qc6 => simp
  intro v' w1 hown hgrow hnil
  go_wp2
  go_ret
  refine ⟨v', rfl, ?_, ?_⟩
  · unfold Own; simpa [vals] using hown
  · exact ((Below.refl _ w).alloc (Nat.le_refl _) _).grown hgrow (by simp) (by intro k hk; simp [Value.ownBlock] at hk; omega)
end Go.Proofs.Ytlgagnbnjfneaaa
