/- More shapes of arguments: doors, fans, a plant. No conditions. -/
import Derived.Test.YtlgagnbnjfneaaaFrame4
import Derived.Test.YtlgagnbnjfneaaaFrame5
import Derived.Test.YtlgagnbnjfneaaaPlant
namespace Go.Proofs.Ytlgagnbnjfneaaa
open Go.ChangeShapes Go.WideShapes Go.ChangeAt Go.RowKit Go.Joins Go.Deep
section
variable {H : Type} {enc : TypeId × Value → H} {P : Program} {W : World}
/-- A slice of structs: each field's cell, its reading, and its places among all. -/
theorem open_slice_fields2 {t e : TypeId} {fs : Array Field} {fuel : Nat} {cs : List Value} {x : DataW H × List MemPlace} (ht : P.underlying t = some (.slice e)) (he : P.underlying e = some (.struct fs))
    (hone : oneCellFields P fs = true) (hC : P.cellsOf e = fs.size) (h : DataW.trod enc P W 0 (fun _ => true) true fuel t cs = some x) :
    (cs = [.slice none 0 0]) ∨
    ∃ (a : Addr) (len cap : Nat) (p : List MemPlace), cs = [.slice (some a) len cap] ∧ len ≤ cap ∧ cap ≤ maxLen ∧ x.2 = MemPlace.row a (cap * fs.size) ++ p ∧
      ∀ i, i < cap → ∀ (j : Nat) (f : Field), fs[j]? = some f → ∃ (v : Value) (y : DataW H × List MemPlace) (n : Nat), W.cell? (a.add (i * fs.size + j)) = some v ∧ DataW.trod enc P W 0 (fun _ => true) true n f.type [v] = some y ∧ ∀ q ∈ y.2, q ∈ x.2 := by
  rcases open_slice ht h with ⟨h0, _⟩ | ⟨a, len, cap, m, n, D, Pl, hcs, hb, hl, hm, hmm, hx, hi⟩
  · exact .inl h0
  · rw [if_pos rfl] at hmm
    subst hmm
    refine .inr ⟨a, len, m, (List.range m).flatMap Pl, hcs, hl, hm, by rw [hx, hC], fun i him j f hj => ?_⟩
    obtain ⟨cs', hc, ht'⟩ := hi i him
    rw [hC] at hc
    obtain ⟨ys, n', hn', hy, hlen, hyl, hf⟩ := DataW.trod_struct he ht'
    obtain ⟨_, hcl, hat⟩ := World.cells?_some hc
    obtain ⟨ho, hk⟩ := hone_of hone j f hj
    have hjl : j < fs.size := (Array.getElem?_eq_some_iff.1 hj).1
    have hcell := hat j hjl
    have hv : cs'[j]? = some (cs'[j]'(by omega)) := List.getElem?_eq_getElem (by omega)
    have h1 := hf j f hj
    rw [ho, hk] at h1
    have hone' : (cs'.drop j).take 1 = [cs'[j]'(by omega)] := by
      rw [List.drop_eq_getElem_cons (by omega)]
      rfl
    rw [hone'] at h1
    have hys : ys[j]? = some (ys[j]'(by omega)) := List.getElem?_eq_getElem (by omega)
    refine ⟨_, _, n', ?_, h1.trans hys, fun q hq => ?_⟩
    · rw [← Go.Deep.add_add, hcell, hv]
    · rw [hx]
      refine List.mem_append_right _ (List.mem_flatMap.2 ⟨i, List.mem_range.2 him, ?_⟩)
      have hp : Pl i = ys.flatMap (·.2) := by injection hy
      rw [hp]
      exact List.mem_flatMap.2 ⟨_, List.getElem_mem (show j < ys.length by omega), hq⟩
theorem open_ints_t {t e : TypeId} {fuel : Nat} {v : Value} {x : DataW H × List MemPlace} (ht : P.underlying t = some (.slice e)) (he : P.underlying e = some (.int .i64)) (hc : P.cellsOf e = 1)
    (h : DataW.trod enc P W 0 (fun _ => true) true fuel t [v] = some x) (hlt : ∀ p ∈ x.2, p.block < W.heap.size) :
    ∃ (A : Option Addr) (c : Nat) (xs : List Int), v = .slice A xs.length c ∧ Ints W.heap.size W A xs ∧ Fits xs ∧ xs.length ≤ maxLen := by
  rcases open_ints ht he hc h with ⟨hcs, _⟩ | ⟨a, len', cap', zs, hcs, _, hl, hm, hz, hx, hcell, hwz⟩
  · simp only [List.cons.injEq, and_true] at hcs
    subst hcs
    exact ⟨none, 0, [], rfl, Ints.nil, by simp [Fits], by simp⟩
  · simp only [List.cons.injEq, and_true] at hcs
    subst hcs
    rw [if_pos rfl] at hz
    have hlen : (zs.take len').length = len' := by rw [List.length_take]; omega
    subst hx
    refine ⟨some a, cap', zs.take len', by rw [hlen], ?_, fun x hx => bounds_i64 (hwz x (List.mem_of_mem_take hx)), by omega⟩
    intro hpos
    have hb : a.block < W.heap.size := hlt _ (row_head (n := zs.length) (by rw [List.length_take] at hpos; omega))
    refine ⟨a, rfl, hb, fun k hk => ?_⟩
    have hk' : k < zs.length := by rw [List.length_take] at hk; omega
    have := hcell k hk'
    rw [List.getElem_take, this]
    simp [List.getD, hk']
theorem open_intss_t {t e q : TypeId} {fuel : Nat} {v : Value} {x : DataW H × List MemPlace} (ht : P.underlying t = some (.slice e)) (he : P.underlying e = some (.slice q)) (hq : P.underlying q = some (.int .i64)) (ce : P.cellsOf e = 1) (cq : P.cellsOf q = 1)
    (h : DataW.trod enc P W 0 (fun _ => true) true fuel t [v] = some x) (hlt : ∀ p ∈ x.2, p.block < W.heap.size) :
    ∃ (A : Option Addr) (c : Nat) (xss : List (List Int)), v = .slice A xss.length c ∧ Nest W.heap.size W A xss ∧ (∀ l ∈ xss, l.length ≤ maxLen ∧ Fits l) ∧ xss.length ≤ maxLen := by
  rcases open_int_rows ht he hq ce cq h with ⟨hcs, _⟩ | ⟨a, len, cap, A, L, C, Z, hcs, _, hl, hm, hx, hr⟩
  · simp only [List.cons.injEq, and_true] at hcs
    subst hcs
    exact ⟨none, 0, [], rfl, Nest.nil, by simp, by simp⟩
  · simp only [List.cons.injEq, and_true] at hcs
    subst hcs
    have hps : x.2 = MemPlace.row a cap ++ (List.range cap).flatMap fun r => intRowPlaces (A r) (Z r) := congrArg Prod.snd hx
    have hrl : ∀ i, i < len → ((Z i).take (L i)).length = L i := fun i hi => by
      obtain ⟨_, h2, _, h4, _⟩ := hr i (by omega)
      rw [List.length_take]; omega
    let xss : List (List Int) := (List.range len).map fun i => (Z i).take (L i)
    have hxl : xss.length = len := by simp [xss]
    refine ⟨some a, cap, xss, by rw [hxl], ?_, ?_, by omega⟩
    · intro hpos
      rw [hxl] at hpos
      have hb : a.block < W.heap.size := by
        refine hlt (MemPlace.cell a.block a.off) ?_
        rw [hps]
        exact List.mem_append_left _ (row_head (by omega))
      have hs : a.spot = none := cell_spot (by have := (hr 0 (by omega)).1; rw [show a.add 0 = a by simp [Addr.add]] at this; exact this)
      have hrr := hr
      obtain ⟨b, o, s⟩ := a
      simp only at hs
      subst hs
      refine ⟨b, o, rfl, hb, fun k hk => ?_⟩
      rw [hxl] at hk
      obtain ⟨h1, h2, h3, h4, h5, h6, h7⟩ := hr k (by omega)
      have e : xss[k] = (Z k).take (L k) := by simp [xss]
      rw [e, hrl k hk]
      refine ⟨A k, C k, by rw [Addr.add_lit] at h1; exact h1, fun hp => ?_⟩
      rw [hrl k hk] at hp
      cases hA : A k with
      | none => have := h6 hA; omega
      | some a' =>
        obtain ⟨_, hc⟩ := h7 a' hA
        have hb' : a'.block < W.heap.size := by
          refine hlt (MemPlace.cell a'.block a'.off) ?_
          rw [hps]
          refine List.mem_append_right _ (List.mem_flatMap.2 ⟨k, List.mem_range.2 (by omega), ?_⟩)
          rw [hA]
          exact row_head (by omega)
        refine ⟨a', rfl, hb', fun j hj => ?_⟩
        rw [hrl k hk] at hj
        rw [hc j (by omega), List.getElem_take]
        simp [List.getD, show j < (Z k).length by omega]
    · intro xs hxs
      obtain ⟨i, hi, rfl⟩ := List.mem_map.1 hxs
      have hi := List.mem_range.1 hi
      obtain ⟨_, h2, h3, h4, h5, _⟩ := hr i (by omega)
      exact ⟨by rw [hrl i hi]; omega, fun x hx => bounds_i64 (h5 x (List.mem_of_mem_take hx))⟩
theorem open_doors_t {t e : TypeId} {f0 f1 f2 f3 : Field} {fuel : Nat} {v : Value} {x : DataW H × List MemPlace} (ht : P.underlying t = some (.slice e)) (he : P.underlying e = some (.struct #[f0, f1, f2, f3]))
    (g0 : P.underlying f0.type = some .string) (g1 : P.underlying f1.type = some (.int .i64)) (g2 : P.underlying f2.type = some (.int .i64)) (g3 : P.underlying f3.type = some (.int .i64))
    (hone : oneCellFields P #[f0, f1, f2, f3] = true) (hC : P.cellsOf e = 4) (h : DataW.trod enc P W 0 (fun _ => true) true fuel t [v] = some x) (hlt : ∀ p ∈ x.2, p.block < W.heap.size) :
    ∃ (A : Option Addr) (c : Nat) (xs : List Do), v = .slice A xs.length c ∧ Recs encDo 4 W.heap.size W A xs ∧ FitsDo xs ∧ xs.length ≤ maxLen := by
  rcases open_slice_fields2 ht he hone hC h with hcs | ⟨a, len, cap, p, hcs, hl, hm, hx, hi⟩
  · simp only [List.cons.injEq, and_true] at hcs
    subst hcs
    exact ⟨none, 0, [], rfl, Recs.nil, by simp [FitsDo], by simp⟩
  · simp only [List.cons.injEq, and_true] at hcs
    subst hcs
    have hz : ∀ i, i < len → ∃ z : Do, (∀ j u, (encDo z)[j]? = some u → W.cell? (a.add (i * 4 + j)) = some u) ∧ FitsDo [z] := by
      intro i hi'
      obtain ⟨v0, y0, n0, c0, t0, -⟩ := hi i (by omega) 0 f0 rfl
      obtain ⟨s, e0, _, b0⟩ := DataW.trod_string g0 t0
      simp only [List.cons.injEq, and_true] at e0
      subst e0
      obtain ⟨v1, y1, n1, c1, t1, -⟩ := hi i (by omega) 1 f1 rfl
      obtain ⟨z1, e1, _, b1⟩ := DataW.trod_int g1 t1
      simp only [List.cons.injEq, and_true] at e1
      subst e1
      obtain ⟨v2, y2, n2, c2, t2, -⟩ := hi i (by omega) 2 f2 rfl
      obtain ⟨z2, e2, _, b2⟩ := DataW.trod_int g2 t2
      simp only [List.cons.injEq, and_true] at e2
      subst e2
      obtain ⟨v3, y3, n3, c3, t3, -⟩ := hi i (by omega) 3 f3 rfl
      obtain ⟨z3, e3, _, b3⟩ := DataW.trod_int g3 t3
      simp only [List.cons.injEq, and_true] at e3
      subst e3
      refine ⟨⟨s, z1, z2, z3⟩, fun j u hu => ?_, ?_⟩
      · have hj4 : j < 4 := (List.getElem?_eq_some_iff.1 hu).1
        match j, hj4 with
        | 0, _ => rw [← hu]; exact c0
        | 1, _ => rw [← hu]; exact c1
        | 2, _ => rw [← hu]; exact c2
        | 3, _ => rw [← hu]; exact c3
      · intro x hx'
        obtain rfl := List.mem_singleton.1 hx'
        exact ⟨b0, bounds_i64 b1, bounds_i64 b2, bounds_i64 b3⟩
    let F : Nat → Do := fun i => if h : i < len then Classical.choose (hz i h) else nDo
    have hF : ∀ i, i < len → (∀ j u, (encDo (F i))[j]? = some u → W.cell? (a.add (i * 4 + j)) = some u) ∧ FitsDo [F i] := by
      intro i h1
      have e : F i = Classical.choose (hz i h1) := dif_pos h1
      rw [e]
      exact Classical.choose_spec (hz i h1)
    let xs : List Do := (List.range len).map F
    have hxl : xs.length = len := by simp [xs]
    refine ⟨some a, cap, xs, by rw [hxl], ?_, ?_, by omega⟩
    · intro hpos
      rw [hxl] at hpos
      have hb : a.block < W.heap.size := by
        refine hlt (MemPlace.cell a.block a.off) ?_
        rw [hx]
        exact List.mem_append_left _ (row_head (by show 0 < cap * 4; omega))
      have hs : a.spot = none := spot_none (by have := (hF 0 hpos).1 0 (.string (F 0).id) rfl; rw [show a.add (0 * 4 + 0) = a by simp [Addr.add]] at this; exact this)
      obtain ⟨b, o, s⟩ := a
      simp only at hs
      subst hs
      refine ⟨b, o, rfl, hb, fun k hk j u hu => ?_⟩
      rw [hxl] at hk
      have e : xs[k] = F k := by simp [xs]
      rw [e] at hu
      have hc := (hF k hk).1 j u hu
      rw [Addr.add_lit, ← Nat.add_assoc] at hc
      exact hc
    · intro x hx'
      obtain ⟨i, hi', rfl⟩ := List.mem_map.1 hx'
      exact (hF i (List.mem_range.1 hi')).2 _ (List.mem_singleton.2 rfl)
theorem open_fans_t {t e t2 e2 q : TypeId} {f0 f1 f2 : Field} {fuel : Nat} {v : Value} {x : DataW H × List MemPlace} (ht : P.underlying t = some (.slice e)) (he : P.underlying e = some (.struct #[f0, f1, f2]))
    (g0 : P.underlying f0.type = some .string) (g1 : P.underlying f1.type = some (.int .i64)) (h2t : f2.type = t2) (g2 : P.underlying t2 = some (.slice e2)) (g3 : P.underlying e2 = some (.slice q)) (g4 : P.underlying q = some (.int .i64)) (ce : P.cellsOf e2 = 1) (cq : P.cellsOf q = 1)
    (hone : oneCellFields P #[f0, f1, f2] = true) (hC : P.cellsOf e = 3) (h : DataW.trod enc P W 0 (fun _ => true) true fuel t [v] = some x) (hlt : ∀ p ∈ x.2, p.block < W.heap.size) :
    ∃ (A : Option Addr) (c : Nat) (xs : List Fa), v = .slice A xs.length c ∧ Fns W.heap.size W A xs ∧ FitsF xs ∧ xs.length ≤ maxLen := by
  subst h2t
  rcases open_slice_fields2 ht he hone hC h with hcs | ⟨a, len, cap, p, hcs, hl, hm, hx, hi⟩
  · simp only [List.cons.injEq, and_true] at hcs
    subst hcs
    exact ⟨none, 0, [], rfl, fun hn => by simp at hn, by simp [FitsF], by simp⟩
  · simp only [List.cons.injEq, and_true] at hcs
    subst hcs
    have hz : ∀ i, i < len → ∃ z : Fa, (W.cell? (a.add (i * 3)) = some (.string z.id) ∧ W.cell? (a.add (i * 3 + 1)) = some (.int .i64 z.aw) ∧ ∃ A' c, W.cell? (a.add (i * 3 + 2)) = some (.slice A' z.cv.length c) ∧ Nest W.heap.size W A' z.cv) ∧ FitsF [z] := by
      intro i hi'
      obtain ⟨v0, y0, n0, c0, t0, -⟩ := hi i (by omega) 0 f0 rfl
      obtain ⟨s, e0, _, b0⟩ := DataW.trod_string g0 t0
      simp only [List.cons.injEq, and_true] at e0
      subst e0
      obtain ⟨v1, y1, n1, c1, t1, -⟩ := hi i (by omega) 1 f1 rfl
      obtain ⟨z1, e1, _, b1⟩ := DataW.trod_int g1 t1
      simp only [List.cons.injEq, and_true] at e1
      subst e1
      obtain ⟨v2, y2, n2, c2, t2, hp2⟩ := hi i (by omega) 2 f2 rfl
      obtain ⟨A', c', xss, rfl, hI, hF, hL⟩ := open_intss_t g2 g3 g4 ce cq t2 (fun q hq => hlt q (hp2 q hq))
      refine ⟨⟨s, z1, xss⟩, ⟨c0, c1, A', c', c2, hI⟩, ?_⟩
      intro x hx'
      obtain rfl := List.mem_singleton.1 hx'
      exact ⟨b0, bounds_i64 b1, hL, hF⟩
    let F : Nat → Fa := fun i => if h : i < len then Classical.choose (hz i h) else nFa
    have hF : ∀ i, i < len → (W.cell? (a.add (i * 3)) = some (.string (F i).id) ∧ W.cell? (a.add (i * 3 + 1)) = some (.int .i64 (F i).aw) ∧ ∃ A' c, W.cell? (a.add (i * 3 + 2)) = some (.slice A' (F i).cv.length c) ∧ Nest W.heap.size W A' (F i).cv) ∧ FitsF [F i] := by
      intro i h1
      have e : F i = Classical.choose (hz i h1) := dif_pos h1
      rw [e]
      exact Classical.choose_spec (hz i h1)
    let xs : List Fa := (List.range len).map F
    have hxl : xs.length = len := by simp [xs]
    refine ⟨some a, cap, xs, by rw [hxl], ?_, ?_, by omega⟩
    · intro hpos
      rw [hxl] at hpos
      have hb : a.block < W.heap.size := by
        refine hlt (MemPlace.cell a.block a.off) ?_
        rw [hx]
        exact List.mem_append_left _ (row_head (by show 0 < cap * 3; omega))
      have hs : a.spot = none := spot_none (by have := (hF 0 hpos).1.1; rw [show a.add (0 * 3) = a by simp [Addr.add]] at this; exact this)
      obtain ⟨b, o, s⟩ := a
      simp only at hs
      subst hs
      refine ⟨b, o, rfl, hb, fun k hk => ?_⟩
      rw [hxl] at hk
      have e : xs.getD k nFa = F k := by simp [xs, List.getD, hk]
      rw [e]
      obtain ⟨⟨k0, k1, A', c, k2, hN⟩, _⟩ := hF k hk
      rw [Addr.add_lit] at k0 k1 k2
      rw [← Nat.add_assoc] at k1 k2
      exact ⟨k0, k1, A', c, k2, hN.low⟩
    · intro x hx'
      obtain ⟨i, hi', rfl⟩ := List.mem_map.1 hx'
      exact (hF i (List.mem_range.1 hi')).2 _ (List.mem_singleton.2 rfl)
theorem open_plant {r : Reach} {b0 : Nat} {t tM tA eA tD eD tL eL q tF eF tR : TypeId} {f0 f1 f2 f3 f4 f5 m0 m1 a0 a1 a2 a3 a4 a5 a6 d0 d1 d2 d3 g0 g1 g2 : Field} {v : Value} {d : DataW H} {ps : List MemPlace}
    (hs : P.underlying t = some (.struct #[f0, f1, f2, f3, f4, f5])) (ho : f0.offset = 0 ∧ f1.offset = 2 ∧ f2.offset = 3 ∧ f3.offset = 4 ∧ f4.offset = 5 ∧ f5.offset = 6) (hk : P.cellsOf f0.type = 2 ∧ P.cellsOf f1.type = 1 ∧ P.cellsOf f2.type = 1 ∧ P.cellsOf f3.type = 1 ∧ P.cellsOf f4.type = 1 ∧ P.cellsOf f5.type = 1) (hC : P.cellsOf t = 7)
    (ht : f0.type = tM ∧ f1.type = tD ∧ f2.type = tL ∧ f3.type = tF ∧ f4.type = tR)
    (uM : P.underlying tM = some (.struct #[m0, m1])) (oM : oneCellFields P #[m0, m1] = true) (uJ : P.underlying m0.type = some (.int .i64)) (hA : m1.type = tA) (uA : P.underlying tA = some (.slice eA)) (ueA : P.underlying eA = some (.struct #[a0, a1, a2, a3, a4, a5, a6]))
    (k0 : P.underlying a0.type = some .string) (k1 : P.underlying a1.type = some (.int .i64)) (k2 : P.underlying a2.type = some (.int .i64)) (k3 : P.underlying a3.type = some (.int .i64)) (k4 : P.underlying a4.type = some (.int .i64)) (k5 : P.underlying a5.type = some (.int .i64)) (k6 : P.underlying a6.type = some (.int .i64)) (oA : oneCellFields P #[a0, a1, a2, a3, a4, a5, a6] = true) (cA : P.cellsOf eA = 7)
    (uD : P.underlying tD = some (.slice eD)) (ueD : P.underlying eD = some (.struct #[d0, d1, d2, d3])) (j0 : P.underlying d0.type = some .string) (j1 : P.underlying d1.type = some (.int .i64)) (j2 : P.underlying d2.type = some (.int .i64)) (j3 : P.underlying d3.type = some (.int .i64)) (oD : oneCellFields P #[d0, d1, d2, d3] = true) (cD : P.cellsOf eD = 4)
    (uL : P.underlying tL = some (.slice eL)) (ueL : P.underlying eL = some (.slice q)) (uq : P.underlying q = some (.int .i64)) (ce : P.cellsOf eL = 1) (cq : P.cellsOf q = 1)
    (uF : P.underlying tF = some (.slice eF)) (ueF : P.underlying eF = some (.struct #[g0, g1, g2])) (i0 : P.underlying g0.type = some .string) (i1 : P.underlying g1.type = some (.int .i64)) (i2 : g2.type = tL) (oF : oneCellFields P #[g0, g1, g2] = true) (cF : P.cellsOf eF = 3)
    (uR : P.underlying tR = some (.slice q)) (uT : P.underlying f5.type = some (.int .i64))
    (hv : Value.okWide P W r b0 t v) (h : DataW.Trod enc P W 0 (fun _ => true) true t v d ps) (hlt : ∀ p ∈ ps, p.block < W.heap.size) :
    ∃ p : Pt, PlantIs W.heap.size W v p ∧ PtFits p := by
  obtain ⟨cs, rfl, hsz⟩ := okWide_struct hs hv
  obtain ⟨fuel, hf⟩ := h
  obtain ⟨ys, n, hfu, hx, hcl, hyl, hat⟩ := DataW.trod_struct hs hf
  obtain ⟨rfl, rfl, rfl, rfl, rfl⟩ := ht
  obtain ⟨o0, o1, o2, o3, o4, o5⟩ := ho
  obtain ⟨c0, c1, c2, c3, c4, c5⟩ := hk
  have hcz : cs.toList.length = 7 := by rw [Array.length_toList]; exact hsz.trans hC
  have hcs : (Value.agg cs).cells.toList = cs.toList := rfl
  rw [hcs] at hat
  obtain ⟨l⟩ := cs
  simp only at hcz hat
  match l, hcz with
  | [v0, v1, v2, v3, v4, v5, v6], _ =>
  simp only [List.size_toArray] at hyl
  have hp : ∀ i (hi : i < ys.length), ∀ q ∈ (ys[i]).2, q.block < W.heap.size := fun i hi q hq => hlt q (by
    have hps : ps = ys.flatMap (·.2) := by injection hx
    rw [hps]
    exact List.mem_flatMap.2 ⟨_, List.getElem_mem hi, hq⟩)
  have hl6 : ys.length = 6 := hyl
  have e0 := hat 0 f0 rfl
  have e1 := hat 1 f1 rfl
  have e2 := hat 2 f2 rfl
  have e3 := hat 3 f3 rfl
  have e4 := hat 4 f4 rfl
  have e5 := hat 5 f5 rfl
  rw [List.getElem?_eq_getElem (by omega), o0, c0] at e0
  rw [List.getElem?_eq_getElem (by omega), o1, c1] at e1
  rw [List.getElem?_eq_getElem (by omega), o2, c2] at e2
  rw [List.getElem?_eq_getElem (by omega), o3, c3] at e3
  rw [List.getElem?_eq_getElem (by omega), o4, c4] at e4
  rw [List.getElem?_eq_getElem (by omega), o5, c5] at e5
  have h0 := hp 0 (by omega)
  have h1 := hp 1 (by omega)
  have h2 := hp 2 (by omega)
  have h3 := hp 3 (by omega)
  have h4 := hp 4 (by omega)
  obtain ⟨zs, n', hfu', hx', hcl', hyl', hat'⟩ := DataW.trod_struct uM e0
  have hz2 : zs.length = 2 := hyl'
  obtain ⟨om0, cm0⟩ := hone_of oM 0 m0 rfl
  obtain ⟨om1, cm1⟩ := hone_of oM 1 m1 rfl
  have w0 := hat' 0 m0 rfl
  have w1 := hat' 1 m1 rfl
  rw [List.getElem?_eq_getElem (by omega), om0, cm0] at w0
  rw [List.getElem?_eq_getElem (by omega), om1, cm1] at w1
  have hq1 : ∀ q ∈ (zs[1]'(by omega)).2, q.block < W.heap.size := fun q hq => h0 q (by
    have hps : (ys[0]'(by omega)).2 = zs.flatMap (·.2) := by rw [hx']
    rw [hps]
    exact List.mem_flatMap.2 ⟨_, List.getElem_mem (show 1 < zs.length by omega), hq⟩)
  obtain ⟨J, q0, _, bJ⟩ := DataW.trod_int uJ w0
  have q0 : v0 = .int .i64 J := by simpa using q0
  subst q0
  subst hA
  obtain ⟨A1, n1, xs, r1, I1, F1, L1⟩ := open_airways (v := v1) uA ueA k0 k1 k2 k3 k4 k5 k6 oA cA w1 hq1
  subst r1
  obtain ⟨A2, n2, ds, r2, I2, F2, L2⟩ := open_doors_t (v := v2) uD ueD j0 j1 j2 j3 oD cD e1 h1
  subst r2
  obtain ⟨A3, n3, ls, r3, I3, F3, L3⟩ := open_intss_t (v := v3) uL ueL uq ce cq e2 h2
  subst r3
  obtain ⟨A4, n4, fs, r4, I4, F4, L4⟩ := open_fans_t (v := v4) uF ueF i0 i1 i2 uL ueL uq ce cq oF cF e3 h3
  subst r4
  obtain ⟨A5, n5, dr, r5, I5, F5, L5⟩ := open_ints_t (v := v5) uR uq cq e4 h4
  subst r5
  obtain ⟨tol, q6, _, bT⟩ := DataW.trod_int uT e5
  have q6 : v6 = .int .i64 tol := by simpa using q6
  subst q6
  exact ⟨⟨J, xs, ds, ls, fs, dr, tol⟩, ⟨A1, n1, A2, n2, A3, n3, A4, n4, A5, n5, rfl, I1, I2, I3, I4, I5⟩, ⟨F1, L1, F2, L2, L3, F3, L4, F4, L5, F5, bounds_i64 bT, bounds_i64 bJ⟩⟩
end
end Go.Proofs.Ytlgagnbnjfneaaa
