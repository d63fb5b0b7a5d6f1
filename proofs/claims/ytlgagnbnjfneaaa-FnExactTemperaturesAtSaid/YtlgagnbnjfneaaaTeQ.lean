/- The first list of temperatures, plainly: as the program stores it and as the reference appends it. No program in sight. No conditions but those that each theorem names. -/
import Derived.Test.YtlgagnbnjfneaaaTeP
namespace Go.Proofs.Ytlgagnbnjfneaaa
open Pl
namespace Hx
def sur (t : Int) (su : List Int) (d : List Int) : Nat → List Int | 0 => d | k + 1 => (sur t su d k).set (su.getD k 0).toNat t
theorem sur_len (t : Int) (su d : List Int) : ∀ k, (sur t su d k).length = d.length
  | 0 => rfl
  | k + 1 => by rw [sur, List.length_set, sur_len t su d k]
theorem sur_at {t : Int} {su d : List Int} {i : Nat} : ∀ k, (∀ m, m < k → (su.getD m 0).toNat < d.length) → (sur t su d k).getD i 0 = if (∃ m, m < k ∧ (su.getD m 0).toNat = i) then t else d.getD i 0
  | 0, _ => by
    rw [if_neg (by rintro ⟨m, hm, _⟩; omega)]
    rfl
  | k + 1, h => by
    have ih := sur_at (t := t) (i := i) k (fun m hm => h m (by omega))
    rw [sur, getD_set _ _ _ _ (by rw [sur_len]; exact h k (by omega)), ih]
    by_cases e : i = (su.getD k 0).toNat
    · rw [if_pos e, if_pos ⟨k, by omega, e.symm⟩]
    · rw [if_neg e]
      by_cases h2 : ∃ m, m < k ∧ (su.getD m 0).toNat = i
      · obtain ⟨m, hm, hi⟩ := h2
        rw [if_pos ⟨m, hm, hi⟩, if_pos ⟨m, by omega, hi⟩]
      · rw [if_neg h2, if_neg]
        rintro ⟨m, hm, hi⟩
        by_cases e2 : m = k
        · subst e2; exact e hi.symm
        · exact h2 ⟨m, by omega, hi⟩
theorem first_length (N : Nat) (su : List Int) (t : Int) : (first N su t).length = N := by unfold first; simp
theorem first_get {N i : Nat} {su : List Int} {t : Int} (h : i < N) : (first N su t).getD i 0 = if (i : Int) ∈ su then t else -1000 := by
  unfold first
  simp [List.getD, h]
theorem first_succ (n : Nat) (su : List Int) (t : Int) : first (n + 1) su t = first n su t ++ [if (n : Int) ∈ su then t else -1000] := by
  unfold first
  rw [List.range_succ, List.map_append]
  rfl
theorem sur_first {N : Nat} {su : List Int} {t : Int} (h : ∀ m, m < su.length → 0 ≤ su.getD m 0 ∧ su.getD m 0 ≤ (N : Int) - 1) : sur t su (List.replicate N (-1000)) su.length = first N su t := by
  have hl : (sur t su (List.replicate N (-1000)) su.length).length = N := by rw [sur_len, List.length_replicate]
  refine List.ext_getElem (by rw [hl, first_length]) (fun i h1 h2 => ?_)
  have hi : i < N := by omega
  have a : (sur t su (List.replicate N (-1000)) su.length)[i] = (sur t su (List.replicate N (-1000)) su.length).getD i 0 := by simp [List.getD, h1]
  have b : (first N su t)[i] = (first N su t).getD i 0 := by simp [List.getD, h2]
  rw [a, b, first_get hi, sur_at _ (fun m hm => by have := h m hm; rw [List.length_replicate]; omega)]
  have c : (List.replicate N (-1000 : Int)).getD i 0 = -1000 := by simp [List.getD, hi]
  rw [c]
  by_cases hm : (i : Int) ∈ su
  · rw [if_pos hm, if_pos]
    obtain ⟨m, hm1, hm2⟩ := List.getElem_of_mem hm
    refine ⟨m, hm1, ?_⟩
    rw [show su.getD m 0 = su[m] by simp [List.getD, hm1], hm2]
    omega
  · rw [if_neg hm, if_neg]
    rintro ⟨m, hm1, hm2⟩
    apply hm
    have := h m hm1
    have e : (i : Int) = su.getD m 0 := by omega
    rw [e, show su.getD m 0 = su[m] by simp [List.getD, hm1]]
    exact List.getElem_mem _
theorem first_tl {N : Nat} {su : List Int} {t : Int} (h : -100 ≤ t ∧ t ≤ 600) : Tl N (first N su t) := by
  refine ⟨first_length _ _ _, fun i hi => ?_⟩
  rw [first_get hi]
  split
  · exact .inr h
  · exact .inl rfl
end Hx
end Go.Proofs.Ytlgagnbnjfneaaa
