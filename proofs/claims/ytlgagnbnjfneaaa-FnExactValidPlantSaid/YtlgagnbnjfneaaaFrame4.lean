/- More shapes of arguments: a list of lists of numbers. No conditions. -/
import Derived.Test.YtlgagnbnjfneaaaFrame2
import Derived.Test.YtlgagnbnjfneaaaNest
import Derived.Deep.Matrix
namespace Go.Proofs.Ytlgagnbnjfneaaa
open Go.ChangeShapes Go.WideShapes Go.ChangeAt Go.RowKit Go.Joins Go.Deep
def FitsSS (xss : List (List Int)) : Prop := ∀ xs ∈ xss, Fits xs ∧ xs.length ≤ maxLen
section
variable {H : Type} {enc : TypeId × Value → H} {P : Program} {W : World}
theorem cell_spot {w : World} {a : Addr} {v : Value} (h : w.cell? a = some v) : a.spot = none := by
  unfold World.cell? at h
  split at h
  · split at h
    · cases h
    · rename_i hs; simpa using hs
  · cases h
theorem open_intss_at {t e q : TypeId} {r : Reach} {b0 : Nat} {v : Value} {d : DataW H} {ps : List MemPlace} (ht : P.underlying t = some (.slice e)) (he : P.underlying e = some (.slice q)) (hq : P.underlying q = some (.int .i64)) (ce : P.cellsOf e = 1) (cq : P.cellsOf q = 1)
    (hval : Value.okWide P W r b0 t v) (h : DataW.Trod enc P W 0 (fun _ => true) true t v d ps) (hlt : ∀ p ∈ ps, p.block < W.heap.size) :
    ∃ (A : Option Addr) (c : Nat) (xss : List (List Int)), v = .slice A xss.length c ∧ Nest W.heap.size W A xss ∧ FitsSS xss ∧ xss.length ≤ maxLen := by
  obtain ⟨a0, len, cap, rfl⟩ := okWide_slice ht hval
  obtain ⟨fuel, hf⟩ := h
  rcases open_int_rows ht he hq ce cq hf with ⟨hcs, _⟩ | ⟨a, len', cap', A, L, C, Z, hcs, _, hl, hm, hx, hr⟩
  · simp only [Value.cells, List.cons.injEq, Value.slice.injEq, and_true] at hcs
    obtain ⟨rfl, rfl, rfl⟩ := hcs
    exact ⟨none, 0, [], rfl, Nest.nil, by simp [FitsSS], by simp⟩
  · simp only [Value.cells, List.cons.injEq, Value.slice.injEq, and_true] at hcs
    obtain ⟨rfl, rfl, rfl⟩ := hcs
    have hps : ps = MemPlace.row a cap ++ (List.range cap).flatMap fun r => intRowPlaces (A r) (Z r) := congrArg Prod.snd hx
    have hrl : ∀ i, i < len → ((Z i).take (L i)).length = L i := fun i hi => by
      obtain ⟨_, h2, _, h4, _⟩ := hr i (by omega)
      rw [List.length_take]; omega
    let xss : List (List Int) := (List.range len).map fun i => (Z i).take (L i)
    have hxl : xss.length = len := by simp [xss]
    refine ⟨some a, cap, xss, by rw [hxl], ?_, ?_, by omega⟩
    · intro hpos
      rw [hxl] at hpos
      have hb : a.block < W.heap.size := by
        refine hlt (MemPlace.cell a.block a.off) ?_
        rw [hps]
        exact List.mem_append_left _ (row_head (by omega))
      have hs : a.spot = none := cell_spot (by have := (hr 0 (by omega)).1; rw [show a.add 0 = a by simp [Addr.add]] at this; exact this)
      have hrr := hr
      obtain ⟨b, o, s⟩ := a
      simp only at hs
      subst hs
      refine ⟨b, o, rfl, hb, fun k hk => ?_⟩
      rw [hxl] at hk
      obtain ⟨h1, h2, h3, h4, h5, h6, h7⟩ := hr k (by omega)
      have e : xss[k] = (Z k).take (L k) := by simp [xss]
      rw [e, hrl k hk]
      refine ⟨A k, C k, by rw [Addr.add_lit] at h1; exact h1, fun hp => ?_⟩
      rw [hrl k hk] at hp
      cases hA : A k with
      | none => have := h6 hA; omega
      | some a' =>
        obtain ⟨_, hc⟩ := h7 a' hA
        have hb' : a'.block < W.heap.size := by
          refine hlt (MemPlace.cell a'.block a'.off) ?_
          rw [hps]
          refine List.mem_append_right _ (List.mem_flatMap.2 ⟨k, List.mem_range.2 (by omega), ?_⟩)
          rw [hA]
          exact row_head (by omega)
        refine ⟨a', rfl, hb', fun j hj => ?_⟩
        rw [hrl k hk] at hj
        rw [hc j (by omega), List.getElem_take]
        simp [List.getD, show j < (Z k).length by omega]
    · intro xs hxs
      obtain ⟨i, hi, rfl⟩ := List.mem_map.1 hxs
      have hi := List.mem_range.1 hi
      obtain ⟨_, h2, h3, h4, h5, _⟩ := hr i (by omega)
      exact ⟨fun x hx => bounds_i64 (h5 x (List.mem_of_mem_take hx)), by rw [hrl i hi]; omega⟩
end
end Go.Proofs.Ytlgagnbnjfneaaa
