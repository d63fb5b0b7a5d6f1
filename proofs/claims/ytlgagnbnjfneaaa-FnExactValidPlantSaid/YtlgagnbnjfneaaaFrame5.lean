/- More shapes of arguments: a mine: a number and a slice of structs of a string and six numbers. No conditions. -/
import Derived.Test.YtlgagnbnjfneaaaFrame2
import Derived.Test.YtlgagnbnjfneaaaAirs
import Derived.Deep.Slices
import Derived.Deep.Fields
import Derived.ChangeSame
namespace Go.Proofs.Ytlgagnbnjfneaaa
open Go.ChangeShapes Go.WideShapes Go.ChangeAt Go.RowKit Go.Joins Go.Deep
section
variable {H : Type} {enc : TypeId × Value → H} {P : Program} {w : World} {base : Nat} {spare : Nat → Bool} {held : Bool}
theorem spot_none {w : World} {a : Addr} {v : Value} (h : w.cell? a = some v) : a.spot = none := by
  unfold World.cell? at h
  split at h
  · split at h
    · cases h
    · rename_i hs; simpa using hs
  · cases h
/-- A slice of structs: each field's cell and reading. -/
theorem open_slice_fields {t e : TypeId} {fs : Array Field} {fuel : Nat} {cs : List Value} {x : DataW H × List MemPlace} (ht : P.underlying t = some (.slice e)) (he : P.underlying e = some (.struct fs))
    (hone : oneCellFields P fs = true) (hC : P.cellsOf e = fs.size) (h : DataW.trod enc P w base spare held fuel t cs = some x) :
    (cs = [.slice none 0 0]) ∨
    ∃ (a : Addr) (len cap m : Nat) (p : List MemPlace), cs = [.slice (some a) len cap] ∧ len ≤ cap ∧ cap ≤ maxLen ∧ m = (if spare a.block then cap else len) ∧ x.2 = MemPlace.row a (m * fs.size) ++ p ∧
      ∀ i, i < m → ∀ (j : Nat) (f : Field), fs[j]? = some f → ∃ (v : Value) (y : DataW H × List MemPlace) (n : Nat), w.cell? (a.add (i * fs.size + j)) = some v ∧ DataW.trod enc P w base spare held n f.type [v] = some y := by
  rcases open_slice ht h with ⟨h0, _⟩ | ⟨a, len, cap, m, n, D, Pl, hcs, hb, hl, hm, hmm, hx, hi⟩
  · exact .inl h0
  · refine .inr ⟨a, len, cap, m, (List.range m).flatMap Pl, hcs, hl, hm, hmm, by rw [hx, hC], fun i him j f hj => ?_⟩
    obtain ⟨cs', hc, ht'⟩ := hi i him
    rw [hC] at hc
    obtain ⟨ys, n', hn', hy, hlen, hyl, hf⟩ := DataW.trod_struct he ht'
    obtain ⟨_, hcl, hat⟩ := World.cells?_some hc
    obtain ⟨ho, hk⟩ := hone_of hone j f hj
    have hjl : j < fs.size := (Array.getElem?_eq_some_iff.1 hj).1
    have hcell := hat j hjl
    have hv : cs'[j]? = some (cs'[j]'(by omega)) := List.getElem?_eq_getElem (by omega)
    have h1 := hf j f hj
    rw [ho, hk] at h1
    have hone' : (cs'.drop j).take 1 = [cs'[j]'(by omega)] := by
      rw [List.drop_eq_getElem_cons (by omega)]
      rfl
    rw [hone'] at h1
    have hys : ys[j]? = some (ys[j]'(by omega)) := List.getElem?_eq_getElem (by omega)
    refine ⟨_, _, n', ?_, h1.trans hys⟩
    rw [← Go.Deep.add_add, hcell, hv]
theorem open_airways {W : World} {t e : TypeId} {f0 f1 f2 f3 f4 f5 f6 : Field} {fuel : Nat} {v : Value} {x : DataW H × List MemPlace} (ht : P.underlying t = some (.slice e)) (he : P.underlying e = some (.struct #[f0, f1, f2, f3, f4, f5, f6]))
    (g0 : P.underlying f0.type = some .string) (g1 : P.underlying f1.type = some (.int .i64)) (g2 : P.underlying f2.type = some (.int .i64)) (g3 : P.underlying f3.type = some (.int .i64)) (g4 : P.underlying f4.type = some (.int .i64)) (g5 : P.underlying f5.type = some (.int .i64)) (g6 : P.underlying f6.type = some (.int .i64))
    (hone : oneCellFields P #[f0, f1, f2, f3, f4, f5, f6] = true) (hC : P.cellsOf e = 7) (h : DataW.trod enc P W 0 (fun _ => true) true fuel t [v] = some x) (hlt : ∀ p ∈ x.2, p.block < W.heap.size) :
    ∃ (A : Option Addr) (c : Nat) (xs : List Aw), v = .slice A xs.length c ∧ Recs encA 7 W.heap.size W A xs ∧ FitsA xs ∧ xs.length ≤ maxLen := by
  rcases open_slice_fields ht he hone hC h with hcs | ⟨a, len, cap, m, p, hcs, hl, hm, hmm, hx, hi⟩
  · simp only [List.cons.injEq, and_true] at hcs
    subst hcs
    exact ⟨none, 0, [], rfl, Recs.nil, by simp [FitsA], by simp⟩
  · simp only [List.cons.injEq, and_true] at hcs
    subst hcs
    rw [if_pos rfl] at hmm
    subst hmm
    have hz : ∀ i, i < len → ∃ z : Aw, (∀ j u, (encA z)[j]? = some u → W.cell? (a.add (i * 7 + j)) = some u) ∧ FitsA [z] := by
      intro i hi'
      obtain ⟨v0, y0, n0, c0, t0⟩ := hi i (by omega) 0 f0 rfl
      obtain ⟨s, e0, _, b0⟩ := DataW.trod_string g0 t0
      simp only [List.cons.injEq, and_true] at e0
      subst e0
      obtain ⟨v1, y1, n1, c1, t1⟩ := hi i (by omega) 1 f1 rfl
      obtain ⟨z1, e1, _, b1⟩ := DataW.trod_int g1 t1
      simp only [List.cons.injEq, and_true] at e1
      subst e1
      obtain ⟨v2, y2, n2, c2, t2⟩ := hi i (by omega) 2 f2 rfl
      obtain ⟨z2, e2, _, b2⟩ := DataW.trod_int g2 t2
      simp only [List.cons.injEq, and_true] at e2
      subst e2
      obtain ⟨v3, y3, n3, c3, t3⟩ := hi i (by omega) 3 f3 rfl
      obtain ⟨z3, e3, _, b3⟩ := DataW.trod_int g3 t3
      simp only [List.cons.injEq, and_true] at e3
      subst e3
      obtain ⟨v4, y4, n4, c4, t4⟩ := hi i (by omega) 4 f4 rfl
      obtain ⟨z4, e4, _, b4⟩ := DataW.trod_int g4 t4
      simp only [List.cons.injEq, and_true] at e4
      subst e4
      obtain ⟨v5, y5, n5, c5, t5⟩ := hi i (by omega) 5 f5 rfl
      obtain ⟨z5, e5, _, b5⟩ := DataW.trod_int g5 t5
      simp only [List.cons.injEq, and_true] at e5
      subst e5
      obtain ⟨v6, y6, n6, c6, t6⟩ := hi i (by omega) 6 f6 rfl
      obtain ⟨z6, e6, _, b6⟩ := DataW.trod_int g6 t6
      simp only [List.cons.injEq, and_true] at e6
      subst e6
      refine ⟨⟨s, z1, z2, z3, z4, z5, z6⟩, fun j u hu => ?_, ?_⟩
      · have hj7 : j < 7 := (List.getElem?_eq_some_iff.1 hu).1
        match j, hj7 with
        | 0, _ => rw [← hu]; exact c0
        | 1, _ => rw [← hu]; exact c1
        | 2, _ => rw [← hu]; exact c2
        | 3, _ => rw [← hu]; exact c3
        | 4, _ => rw [← hu]; exact c4
        | 5, _ => rw [← hu]; exact c5
        | 6, _ => rw [← hu]; exact c6
      · intro x hx'
        obtain rfl := List.mem_singleton.1 hx'
        exact ⟨b0, bounds_i64 b1, bounds_i64 b2, bounds_i64 b3, bounds_i64 b4, bounds_i64 b5, bounds_i64 b6⟩
    let F : Nat → Aw := fun i => if h : i < len then Classical.choose (hz i h) else aNone
    have hF : ∀ i, i < len → (∀ j u, (encA (F i))[j]? = some u → W.cell? (a.add (i * 7 + j)) = some u) ∧ FitsA [F i] := by
      intro i h1
      have e : F i = Classical.choose (hz i h1) := dif_pos h1
      rw [e]
      exact Classical.choose_spec (hz i h1)
    let xs : List Aw := (List.range len).map F
    have hxl : xs.length = len := by simp [xs]
    refine ⟨some a, m, xs, by rw [hxl], ?_, ?_, by omega⟩
    · intro hpos
      rw [hxl] at hpos
      have hb : a.block < W.heap.size := by
        refine hlt (MemPlace.cell a.block a.off) ?_
        rw [hx]
        exact List.mem_append_left _ (row_head (by show 0 < m * 7; omega))
      have hs : a.spot = none := spot_none (by have := (hF 0 hpos).1 0 (.string (F 0).id) rfl; rw [show a.add (0 * 7 + 0) = a by simp [Addr.add]] at this; exact this)
      obtain ⟨b, o, s⟩ := a
      simp only at hs
      subst hs
      refine ⟨b, o, rfl, hb, fun k hk j u hu => ?_⟩
      rw [hxl] at hk
      have e : xs[k] = F k := by simp [xs]
      rw [e] at hu
      have hc := (hF k hk).1 j u hu
      rw [Addr.add_lit, ← Nat.add_assoc] at hc
      exact hc
    · intro x hx'
      obtain ⟨i, hi', rfl⟩ := List.mem_map.1 hx'
      exact (hF i (List.mem_range.1 hi')).2 _ (List.mem_singleton.2 rfl)
end
end Go.Proofs.Ytlgagnbnjfneaaa
