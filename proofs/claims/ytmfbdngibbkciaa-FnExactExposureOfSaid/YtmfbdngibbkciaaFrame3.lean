/- More shapes of arguments: a slice of structs of four numbers. No conditions. -/
import Derived.Test.YtmfbdngibbkciaaFrame2
import Derived.Test.YtmfbdngibbkciaaStru
import Derived.Deep.Slices
import Derived.Deep.Fields
import Derived.ChangeSame
namespace Go.Proofs.Ytmfbdngibbkciaa
open Go.ChangeShapes Go.WideShapes Go.ChangeAt Go.RowKit Go.Joins Go.Deep
section
variable {H : Type} {enc : TypeId × Value → H} {P : Program} {w : World} {base : Nat} {spare : Nat → Bool} {held : Bool}
theorem spot_none {w : World} {a : Addr} {v : Value} (h : w.cell? a = some v) : a.spot = none := by
  unfold World.cell? at h
  split at h
  · split at h
    · cases h
    · rename_i hs; simpa using hs
  · cases h
/-- A slice of structs: each field's cell and reading. -/
theorem open_slice_fields {t e : TypeId} {fs : Array Field} {fuel : Nat} {cs : List Value} {x : DataW H × List MemPlace} (ht : P.underlying t = some (.slice e)) (he : P.underlying e = some (.struct fs))
    (hone : oneCellFields P fs = true) (hC : P.cellsOf e = fs.size) (h : DataW.trod enc P w base spare held fuel t cs = some x) :
    (cs = [.slice none 0 0]) ∨
    ∃ (a : Addr) (len cap m : Nat) (p : List MemPlace), cs = [.slice (some a) len cap] ∧ len ≤ cap ∧ cap ≤ maxLen ∧ m = (if spare a.block then cap else len) ∧ x.2 = MemPlace.row a (m * fs.size) ++ p ∧
      ∀ i, i < m → ∀ (j : Nat) (f : Field), fs[j]? = some f → ∃ (v : Value) (y : DataW H × List MemPlace) (n : Nat), w.cell? (a.add (i * fs.size + j)) = some v ∧ DataW.trod enc P w base spare held n f.type [v] = some y := by
  rcases open_slice ht h with ⟨h0, _⟩ | ⟨a, len, cap, m, n, D, Pl, hcs, hb, hl, hm, hmm, hx, hi⟩
  · exact .inl h0
  · refine .inr ⟨a, len, cap, m, (List.range m).flatMap Pl, hcs, hl, hm, hmm, by rw [hx, hC], fun i him j f hj => ?_⟩
    obtain ⟨cs', hc, ht'⟩ := hi i him
    rw [hC] at hc
    obtain ⟨ys, n', hn', hy, hlen, hyl, hf⟩ := DataW.trod_struct he ht'
    obtain ⟨_, hcl, hat⟩ := World.cells?_some hc
    obtain ⟨ho, hk⟩ := hone_of hone j f hj
    have hjl : j < fs.size := (Array.getElem?_eq_some_iff.1 hj).1
    have hcell := hat j hjl
    have hv : cs'[j]? = some (cs'[j]'(by omega)) := List.getElem?_eq_getElem (by omega)
    have h1 := hf j f hj
    rw [ho, hk] at h1
    have hone' : (cs'.drop j).take 1 = [cs'[j]'(by omega)] := by
      rw [List.drop_eq_getElem_cons (by omega)]
      rfl
    rw [hone'] at h1
    have hys : ys[j]? = some (ys[j]'(by omega)) := List.getElem?_eq_getElem (by omega)
    refine ⟨_, _, n', ?_, h1.trans hys⟩
    rw [← Go.Deep.add_add, hcell, hv]
def FitsD (xs : List Dg) : Prop := ∀ x ∈ xs, (-9223372036854775808 ≤ x.1 ∧ x.1 ≤ 9223372036854775807) ∧ (-9223372036854775808 ≤ x.2.1 ∧ x.2.1 ≤ 9223372036854775807) ∧ (-9223372036854775808 ≤ x.2.2.1 ∧ x.2.2.1 ≤ 9223372036854775807) ∧ (-9223372036854775808 ≤ x.2.2.2 ∧ x.2.2.2 ≤ 9223372036854775807)
theorem open_rows4_at {W : World} {t e : TypeId} {f0 f1 f2 f3 : Field} {r : Reach} {b0 : Nat} {v : Value} {d : DataW H} {ps : List MemPlace} (ht : P.underlying t = some (.slice e)) (he : P.underlying e = some (.struct #[f0, f1, f2, f3]))
    (g0 : P.underlying f0.type = some (.int .i64)) (g1 : P.underlying f1.type = some (.int .i64)) (g2 : P.underlying f2.type = some (.int .i64)) (g3 : P.underlying f3.type = some (.int .i64))
    (hone : oneCellFields P #[f0, f1, f2, f3] = true) (hC : P.cellsOf e = 4)
    (hval : Value.okWide P W r b0 t v) (h : DataW.Trod enc P W 0 (fun _ => true) true t v d ps) (hlt : ∀ p ∈ ps, p.block < W.heap.size) :
    ∃ (A : Option Addr) (c : Nat) (xs : List Dg), v = .slice A xs.length c ∧ Recs encD 4 W.heap.size W A xs ∧ FitsD xs ∧ xs.length ≤ maxLen := by
  obtain ⟨a0, len, cap, rfl⟩ := okWide_slice ht hval
  obtain ⟨fuel, hf⟩ := h
  rcases open_slice_fields ht he hone hC hf with hcs | ⟨a, len', cap', m, p, hcs, hl, hm, hmm, hx, hi⟩
  · simp only [Value.cells, List.cons.injEq, Value.slice.injEq, and_true] at hcs
    obtain ⟨rfl, rfl, rfl⟩ := hcs
    exact ⟨none, 0, [], rfl, Recs.nil, by simp [FitsD], by simp⟩
  · simp only [Value.cells, List.cons.injEq, Value.slice.injEq, and_true] at hcs
    obtain ⟨rfl, rfl, rfl⟩ := hcs
    rw [if_pos rfl] at hmm
    subst hmm
    have hz : ∀ i j, i < len → j < 4 → ∃ z : Int, W.cell? (a.add (i * 4 + j)) = some (.int .i64 z) ∧ (-9223372036854775808 ≤ z ∧ z ≤ 9223372036854775807) := by
      intro i j hi' hj
      obtain ⟨f, hfj, hfu⟩ : ∃ f, (#[f0, f1, f2, f3] : Array Field)[j]? = some f ∧ P.underlying f.type = some (.int .i64) := by
        match j, hj with
        | 0, _ => exact ⟨f0, rfl, g0⟩
        | 1, _ => exact ⟨f1, rfl, g1⟩
        | 2, _ => exact ⟨f2, rfl, g2⟩
        | 3, _ => exact ⟨f3, rfl, g3⟩
      obtain ⟨v, y, n, hc, ht'⟩ := hi i (by omega) j f hfj
      obtain ⟨z, ev, _, hw⟩ := DataW.trod_int hfu ht'
      simp only [List.cons.injEq, and_true] at ev
      subst ev
      exact ⟨z, hc, bounds_i64 hw⟩
    let F : Nat → Nat → Int := fun i j => if h : i < len ∧ j < 4 then Classical.choose (hz i j h.1 h.2) else 0
    have hF : ∀ i j, i < len → j < 4 → W.cell? (a.add (i * 4 + j)) = some (.int .i64 (F i j)) ∧ (-9223372036854775808 ≤ F i j ∧ F i j ≤ 9223372036854775807) := by
      intro i j h1 h2
      have e : F i j = Classical.choose (hz i j h1 h2) := dif_pos ⟨h1, h2⟩
      rw [e]
      exact Classical.choose_spec (hz i j h1 h2)
    let xs : List Dg := (List.range len).map fun i => (F i 0, F i 1, F i 2, F i 3)
    have hxl : xs.length = len := by simp [xs]
    refine ⟨some a, m, xs, by rw [hxl], ?_, ?_, by omega⟩
    · intro hpos
      rw [hxl] at hpos
      have hb : a.block < W.heap.size := by
        refine hlt (MemPlace.cell a.block a.off) ?_
        change ps = _ at hx
        rw [hx]
        exact List.mem_append_left _ (row_head (by show 0 < m * 4; omega))
      have hs : a.spot = none := spot_none (by have := (hF 0 0 hpos (by omega)).1; rw [show a.add (0 * 4 + 0) = a by simp [Addr.add]] at this; exact this)
      obtain ⟨b, o, s⟩ := a
      simp only at hs
      subst hs
      refine ⟨b, o, rfl, hb, fun k hk j u hu => ?_⟩
      rw [hxl] at hk
      have hj4 : j < 4 := by have := (List.getElem?_eq_some_iff.1 hu).1; exact this
      have hc := (hF k j hk hj4).1
      rw [Addr.add_lit, ← Nat.add_assoc] at hc
      rw [hc]
      have e : xs[k] = (F k 0, F k 1, F k 2, F k 3) := by simp [xs]
      rw [e] at hu
      match j, hj4 with
      | 0, _ => exact hu
      | 1, _ => exact hu
      | 2, _ => exact hu
      | 3, _ => exact hu
    · intro x hx'
      obtain ⟨i, hi', rfl⟩ := List.mem_map.1 hx'
      have hi' := List.mem_range.1 hi'
      exact ⟨(hF i 0 hi' (by omega)).2, (hF i 1 hi' (by omega)).2, (hF i 2 hi' (by omega)).2, (hF i 3 hi' (by omega)).2⟩
end
end Go.Proofs.Ytmfbdngibbkciaa
