/- Proved here: the parts Mark, Bools, MineW, Fans, Doors of the row's proof, joined by a program. Conditions: as each part says. -/
import Derived.Test.YtejkoicgbgoiaaaGreatFm2
import Derived.Outline
import Derived.Laws.BytesArg
import Derived.Deep.Grids
import Derived.Deep.RegionHeld3
/- Marks on airways: what a law writes over its own copies. Conditions: the lengths that each theorem names. -/
namespace Go.Proofs.YtejkoicgbgoiaaaGreat
open Go.RowKit
open Pl
def p10 : Nat → Int | 0 => 1 | n + 1 => 10 * p10 n
set_option maxRecDepth 100000 in
theorem markText_any (k : Int) (w : World) (h1 : 1 ≤ k) (h2 : k ≤ 1099511627776) :
    Calls Tryz.prog 46 #[.int .i64 k] w fun e w' => ∃ s : ByteArray, e = .returned (.string s) ∧ s.size ≤ 20 ∧ Below w.heap.size w w' := by
  have hp : k < p10 13 := by show k < 10000000000000; omega
  have HP := Lib.hid hp
  clear hp
  go_enter Tryz.func46, Tryz.ntmps46
  go_wp2
  go_loopw [0, 3] (fun x o wr => ∃ (y : Int) (s : ByteArray) (r : Nat), x = .int .i64 y ∧ o = .string s ∧ 0 ≤ y ∧ y ≤ 1099511627776 ∧ s.size + r = 13 ∧ y < p10 r ∧ Below w.heap.size w wr) (fun x _ _ => (intOf x).toNat)
  case atStart => exact ⟨k, ByteArray.empty, 13, rfl, rfl, by omega, h2, rfl, HP.out, Below.refl _ _⟩
  case round =>
    obtain ⟨y, s, r, rfl, rfl, y0, y1, hs, hy, hb⟩ := hrel
    by_cases hlt : 0 < y
    · have hr : ∃ r', r = r' + 1 := by
        cases r with
        | zero => exfalso; have : y < 1 := hy; omega
        | succ r' => exact ⟨r', rfl⟩
      obtain ⟨r', rfl⟩ := hr
      have hy' : y < 10 * p10 r' := hy
      have HY := Lib.hid hy'
      have HS := Lib.hid hs
      have hsz : s.size ≤ 12 := by omega
      clear hy hy' hs
      have hq0 : 0 ≤ y % 10 := Int.emod_nonneg _ (by decide)
      have hq1 : y % 10 < 10 := Int.emod_lt_of_pos _ (by decide)
      have hcv : (convert 109 9 (.slice (some ⟨wr.heap.size, 0, none⟩) 1 1)).run Tryz.prog (wr.alloc (.cells #[.int .u8 (48 + y % 10)] 5)) = .ok (.string (strOfNums [48 + y % 10])) (wr.alloc (.cells #[.int .u8 (48 + y % 10)] 5)) := by
        refine run_convert_bytes_arg _ _ 5 rfl rfl wr.heap.size 0 1 1 [48 + y % 10] rfl (fun i hi => ?_) _ rfl
        have : i = 0 := by omega
        subst this
        show _ = some (Value.int .u8 (48 + y % 10))
        go_simp
      have hov : ¬ (9223372036854775807 < (strOfNums [48 + y % 10]).size + s.size) := by rw [strOfNums_size]; show ¬ (9223372036854775807 < 1 + s.size); omega
      go_wp2
      have hy' := HY.out
      have hs := HS.out
      refine ⟨⟨y / 10, _, r', rfl, rfl, by omega, by omega, by rw [ByteArray.size_append, strOfNums_size]; show 1 + s.size + r' = 13; omega, by omega, hb.alloc hb.size _⟩, ?_⟩
      simp [intOf]
      omega
    · go_wp2
      exact bodyPost_ret (v := .string ({ data := #[109] } ++ s)) (by simp [results, Tryz.results46, go_sem]) rfl ⟨_, rfl, by rw [ByteArray.size_append]; show 1 + s.size ≤ 20; omega, hb⟩
theorem Below.grownBy {w w' : World} (h : Below w.heap.size w w') (row : Option Nat) : w.grownBy w' row := ⟨h.os, h.tape, h.output, h.size, fun k hk _ => h.block k hk⟩
set_option maxRecDepth 100000 in
set_option maxHeartbeats 800000 in
theorem markAirwayS_row (g c : Nat) (xs : List Aw) (k : Int) (base : Nat) (w : World) (hn : xs.length ≤ 1048576) (h1 : 1 ≤ k) (h2 : k ≤ 1099500000000) (hI : OwnR 99 encA 7 base w (.slice (some ⟨g, 0, none⟩) xs.length c) xs) :
    Calls Tryz.prog 45 #[.slice (some ⟨g, 0, none⟩) xs.length c, .int .i64 k] w fun e w' => e = .returned (.int .i64 (k + 7 * xs.length)) ∧ (∃ ys : List Aw, ys.length = xs.length ∧ OwnR 99 encA 7 base w' (.slice (some ⟨g, 0, none⟩) xs.length c) ys) ∧ w.grownBy w' (some g) := by
  have HI := Lib.hid hI
  clear hI
  obtain ⟨n, hnn⟩ : ∃ n, n = xs.length := ⟨_, rfl⟩
  rw [← hnn]
  rw [← hnn] at HI hn
  have HL := Lib.hid hnn
  clear hnn
  go_enter Tryz.func45, Tryz.ntmps45
  go_wp2
  go_loopw [1, 5] (fun q i wr => ∃ j : Nat, j ≤ n ∧ i = .int .i64 j ∧ q = .int .i64 (k + 7 * j) ∧ w.grownBy wr (some g) ∧ ∃ zs : List Aw, zs.length = n ∧ wr.ownsRow base 99 7 (.slice (some ⟨g, 0, none⟩) n c) n (zs.flatMap encA)) (fun _ i _ => n - (intOf i).toNat)
  case atStart =>
    refine ⟨0, Nat.zero_le _, rfl, by go_num, World.grownBy.refl _ _, xs, HL.out.symm, ?_⟩
    have h := HI.out
    unfold OwnR at h
    rw [← HL.out] at h
    exact h
  case round =>
    obtain ⟨j, hj, rfl, rfl, hg, zs, hz, ho⟩ := hrel
    by_cases hlt : j < n
    · have HO := Lib.hid ho
      have HZ := Lib.hid hz
      clear ho hz
      have HD := Lib.hid (markText_any (k + 7 * j) wr (by omega) (by omega))
      go_wp2_with fail
      refine HD.out.mono ?_
      rintro e w2 ⟨st, rfl, _, hb2⟩
      have hO2 := (show OwnR 99 encA 7 base wr (.slice (some ⟨g, 0, none⟩) n c) zs by unfold OwnR; rw [HZ.out]; exact HO.out).later hb2
      unfold OwnR at hO2
      rw [HZ.out] at hO2
      have hkz : j < zs.length := by rw [HZ.out]; exact hlt
      obtain ⟨y0, e0⟩ := flatA_cell (j := 0) hkz (by omega)
      obtain ⟨y1, e1⟩ := flatA_cell (j := 1) hkz (by omega)
      obtain ⟨y2, e2⟩ := flatA_cell (j := 2) hkz (by omega)
      obtain ⟨y3, e3⟩ := flatA_cell (j := 3) hkz (by omega)
      obtain ⟨y4, e4⟩ := flatA_cell (j := 4) hkz (by omega)
      obtain ⟨y5, e5⟩ := flatA_cell (j := 5) hkz (by omega)
      obtain ⟨y6, e6⟩ := flatA_cell (j := 6) hkz (by omega)
      have d0 := (World.ownsRow.cellAt hO2 (j * 7) (by omega)).trans e0
      have d1 := (World.ownsRow.cellAt hO2 (j * 7 + 1) (by omega)).trans e1
      have d2 := (World.ownsRow.cellAt hO2 (j * 7 + 2) (by omega)).trans e2
      have d3 := (World.ownsRow.cellAt hO2 (j * 7 + 3) (by omega)).trans e3
      have d4 := (World.ownsRow.cellAt hO2 (j * 7 + 4) (by omega)).trans e4
      have d5 := (World.ownsRow.cellAt hO2 (j * 7 + 5) (by omega)).trans e5
      have d6 := (World.ownsRow.cellAt hO2 (j * 7 + 6) (by omega)).trans e6
      have f0 := World.ownsRow.frozenAt hO2 (j * 7)
      have f1 := World.ownsRow.frozenAt hO2 (j * 7 + 1)
      have f2 := World.ownsRow.frozenAt hO2 (j * 7 + 2)
      have f3 := World.ownsRow.frozenAt hO2 (j * 7 + 3)
      have f4 := World.ownsRow.frozenAt hO2 (j * 7 + 4)
      have f5 := World.ownsRow.frozenAt hO2 (j * 7 + 5)
      have f6 := World.ownsRow.frozenAt hO2 (j * 7 + 6)
      have HO2 := Lib.hid hO2
      have hg2 := hg.trans (Below.grownBy hb2 (some g))
      have j0 : (0 : Int) ≤ (j : Int) := by omega
      have j1 : (j : Int) < n := by omega
      clear e0 e1 e2 e3 e4 e5 e6 hO2
      go_wp2
      go_roundw
      case rel =>
        obtain ⟨r0, s0⟩ := World.ownsRow.stored HO2.out (j * 7) (.string st)
        obtain ⟨r1, s1⟩ := World.ownsRow.stored r0 (j * 7 + 1) (.int .i64 (k + 7 * j + 1))
        obtain ⟨r2, s2⟩ := World.ownsRow.stored r1 (j * 7 + 2) (.int .i64 (k + 7 * j + 1 + 1))
        obtain ⟨r3, s3⟩ := World.ownsRow.stored r2 (j * 7 + 3) (.int .i64 (k + 7 * j + 1 + 1 + 1))
        obtain ⟨r4, s4⟩ := World.ownsRow.stored r3 (j * 7 + 4) (.int .i64 (k + 7 * j + 1 + 1 + 1 + 1))
        obtain ⟨r5, s5⟩ := World.ownsRow.stored r4 (j * 7 + 5) (.int .i64 (k + 7 * j + 1 + 1 + 1 + 1 + 1))
        obtain ⟨r6, s6⟩ := World.ownsRow.stored r5 (j * 7 + 6) (.int .i64 (k + 7 * j + 1 + 1 + 1 + 1 + 1 + 1))
        rw [flatA_set ⟨st, k + 7 * j + 1, k + 7 * j + 1 + 1, k + 7 * j + 1 + 1 + 1, k + 7 * j + 1 + 1 + 1 + 1, k + 7 * j + 1 + 1 + 1 + 1 + 1, k + 7 * j + 1 + 1 + 1 + 1 + 1 + 1⟩ zs j hkz] at r6
        exact ⟨j + 1, by omega, by go_num, by go_num, ((((((hg2.trans s0).trans s1).trans s2).trans s3).trans s4).trans s5).trans s6, _, by rw [List.length_set]; exact HZ.out, r6⟩
      case measure => simp [intOf]; omega
    · obtain rfl : j = n := by omega
      have HO := Lib.hid ho
      have HZ := Lib.hid hz
      clear ho hz
      go_wp2
      go_ret
      refine ⟨rfl, ⟨zs, HZ.out, ?_⟩, hg⟩
      unfold OwnR
      rw [HZ.out]
      exact HO.out
theorem markAirwayS_nil (k : Int) (w : World) : Calls Tryz.prog 45 #[.slice none 0 0, .int .i64 k] w fun e w' => e = .returned (.int .i64 k) ∧ w = w' := by
  go_enter Tryz.func45, Tryz.ntmps45
  go_wp2
  go_rounds 1
  go_ret
  exact ⟨rfl, rfl⟩
theorem markAirwayS_own (v : Value) (xs : List Aw) (k : Int) (base : Nat) (w : World) (hn : xs.length ≤ 1048576) (h1 : 1 ≤ k) (h2 : k ≤ 1099500000000) (hI : OwnR 99 encA 7 base w v xs) :
    Calls Tryz.prog 45 #[v, .int .i64 k] w fun e w' => e = .returned (.int .i64 (k + 7 * xs.length)) ∧ (∃ ys : List Aw, ys.length = xs.length ∧ OwnR 99 encA 7 base w' v ys) ∧ w.grownBy w' v.ownBlock := by
  rcases hI.form with ⟨rfl, rfl⟩ | ⟨g, c, rfl, _, _⟩
  · refine (markAirwayS_nil k w).mono ?_
    rintro e w' ⟨rfl, rfl⟩
    exact ⟨by simp, ⟨[], rfl, OwnR.nil_ _ _⟩, World.grownBy.refl _ _⟩
  · exact markAirwayS_row g c xs k base w hn h1 h2 hI
theorem markMine_own (J : Int) (v : Value) (xs : List Aw) (k : Int) (base : Nat) (w : World) (hn : xs.length ≤ 1048576) (h1 : 1 ≤ k) (h2 : k ≤ 1099500000000) (hI : OwnR 99 encA 7 base w v xs) :
    Calls Tryz.prog 19 #[.agg #[.int .i64 J, v], .int .i64 k] w fun e w' => e = .returned (.int .i64 (k + 7 * xs.length)) ∧ (∃ ys : List Aw, ys.length = xs.length ∧ OwnR 99 encA 7 base w' v ys) ∧ w.grownBy w' v.ownBlock := by
  have HS := Lib.hid (fun (W : World) (hb : Below w.heap.size w W) => markAirwayS_own v xs k base W hn h1 h2 (hI.later hb))
  clear hI
  go_enter Tryz.func19, Tryz.ntmps19
  go_wp2_with fail
  have hbe : Below w.heap.size w (w.alloc (.cells #[.int .i64 J, v] 33)) := by go_grown
  refine (HS.out _ hbe).mono ?_
  rintro e w1 ⟨rfl, hy, hg⟩
  have hgg := (Below.grownBy hbe v.ownBlock).trans hg
  clear hg hbe
  go_wp2
  go_ret
  exact ⟨rfl, hy, hgg⟩
end Go.Proofs.YtejkoicgbgoiaaaGreat

/- The laws' own functions on lists of truth values: a copy, a comparison, marks; an argument of that kind. What a list of the call's own is in memory. Conditions: the lengths that each theorem names. -/
namespace Go.Proofs.YtejkoicgbgoiaaaGreat
open Go.RowKit Go.ChangeShapes Go.WideShapes Go.ChangeAt Go.Joins Go.Deep
open Pl
section
variable {H : Type} {enc : TypeId × Value → H} {P : Program} {W : World}
theorem open_bools_at {t e : TypeId} {r : Reach} {b0 : Nat} {v : Value} {d : DataW H} {ps : List MemPlace} (ht : P.underlying t = some (.slice e)) (he : P.underlying e = some .bool) (hc : P.cellsOf e = 1)
    (hval : Value.okWide P W r b0 t v) (h : DataW.Trod enc P W 0 (fun _ => true) true t v d ps) (hlt : ∀ p ∈ ps, p.block < W.heap.size) :
    ∃ (A : Option Addr) (c : Nat) (xs : List Bool), v = .slice A xs.length c ∧ Bools W.heap.size W A xs ∧ xs.length ≤ maxLen := by
  obtain ⟨a0, len, cap, rfl⟩ := okWide_slice ht hval
  obtain ⟨fuel, hf⟩ := h
  rcases open_bools ht he hc hf with ⟨hcs, _⟩ | ⟨a, len', cap', Z, hcs, _, hl, hm, hx, hcell⟩
  · simp only [Value.cells, List.cons.injEq, Value.slice.injEq, and_true] at hcs
    obtain ⟨rfl, rfl, rfl⟩ := hcs
    exact ⟨none, 0, [], rfl, (fun h => by simp at h), by simp⟩
  · simp only [Value.cells, List.cons.injEq, Value.slice.injEq, and_true] at hcs
    obtain ⟨rfl, rfl, rfl⟩ := hcs
    simp only [Prod.mk.injEq] at hx
    obtain ⟨_, rfl⟩ := hx
    refine ⟨some a, cap, (List.range len).map Z, by simp, ?_, by simp; omega⟩
    intro hpos
    have hpos' : 0 < len := by simpa using hpos
    have hb : a.block < W.heap.size := hlt _ (row_head (n := cap) (by omega))
    refine ⟨a, rfl, hb, fun k hk => ?_⟩
    have hk' : k < len := by simpa using hk
    rw [hcell k (by omega)]
    simp
end
theorem Bools.nil {B : Nat} {w : World} {A : Option Addr} : Bools B w A [] := fun h => by simp at h
theorem infoB : (Tryz.prog.info? 4).map (fun i => (i.zero, i.size, i.bytes)) = some (some (.bool false), 1, 1) := by kernel_rfl

/-- The values of truth values. -/
def bvals (xs : List Bool) : List Value := xs.map (Value.bool)
theorem bvals_length (xs : List Bool) : (bvals xs).length = xs.length := List.length_map _
theorem bvals_get {xs : List Bool} {j : Nat} (h : j < xs.length) : (bvals xs)[j]? = some (.bool xs[j]) := by unfold bvals; rw [List.getElem?_map, List.getElem?_eq_getElem h]; rfl
theorem bvals_append (xs ys : List Bool) : bvals (xs ++ ys) = bvals xs ++ bvals ys := List.map_append
theorem bvals_set (xs : List Bool) (j : Nat) (x : Bool) : (bvals xs).set j (.bool x) = bvals (xs.set j x) := by unfold bvals; rw [List.map_set]

/-- 'OwnB base w v xs': the slice value v owns the truth values xs, in a block from base on (nil, if none). -/
def OwnB (base : Nat) (w : World) (v : Value) (xs : List Bool) : Prop := w.ownsRow base 4 1 v xs.length (bvals xs)

theorem OwnB.nil_ (base : Nat) (w : World) : OwnB base w (.slice none 0 0) [] := World.ownsRow_nil _ _ _ _
/-- The form of such a value: an address that may be nil, and a capacity. -/
theorem OwnB.form {base : Nat} {w : World} {v : Value} {xs : List Bool} (h : OwnB base w v xs) :
    (v = .slice none 0 0 ∧ xs = []) ∨ ∃ g c, v = .slice (some ⟨g, 0, none⟩) xs.length c ∧ base ≤ g ∧ g < w.heap.size := by
  rcases h.2 with ⟨rfl, h0⟩ | ⟨g, cap, cur, hv, hb, hg, _⟩
  · exact .inl ⟨rfl, List.eq_nil_of_length_eq_zero h0⟩
  · exact .inr ⟨g, cap, hv, hb, (Array.getElem?_eq_some_iff.1 hg).1⟩
theorem OwnB.slice {base : Nat} {w : World} {v : Value} {xs : List Bool} (h : OwnB base w v xs) : ∃ A c, v = .slice A xs.length c ∧ Bools w.heap.size w A xs ∧ (∀ ad, A = some ad → ad = ⟨ad.block, 0, none⟩ ∧ base ≤ ad.block ∧ ad.block < w.heap.size) := by
  rcases h.form with ⟨rfl, rfl⟩ | ⟨g, c, rfl, hb, hlt⟩
  · exact ⟨none, 0, rfl, Bools.nil, fun ad h => by cases h⟩
  · refine ⟨some ⟨g, 0, none⟩, c, rfl, fun _ => ⟨_, rfl, hlt, fun k hk => ?_⟩, fun ad h => by cases h; exact ⟨rfl, hb, hlt⟩⟩
    exact World.ownsRow.cells h rfl k _ (bvals_get hk)
theorem OwnB.ints {base : Nat} {w : World} {A : Option Addr} {n c : Nat} {xs : List Bool} (h : OwnB base w (.slice A n c) xs) : Bools w.heap.size w A xs := by
  obtain ⟨A', c', he, hi, _⟩ := h.slice
  injection he with h1 h2 h3
  subst h1
  exact hi
theorem OwnB.below {base B : Nat} {w w' : World} {v : Value} {xs : List Bool} (h : OwnB base w v xs) (hb : Below B w w') (hB : ∀ g, v.ownBlock = some g → g < B) : OwnB base w' v xs := by
  refine ⟨h.1, ?_⟩
  rcases h.2 with hn | ⟨g, cap, cur, rfl, h1, h2, rest⟩
  · exact .inl hn
  · exact .inr ⟨g, cap, cur, rfl, h1, (hb.block g (hB g rfl)).trans h2, rest⟩
/-- .. over a call that leaves all that was there. -/
theorem OwnB.later {base : Nat} {w w' : World} {v : Value} {xs : List Bool} (h : OwnB base w v xs) (hb : Below w.heap.size w w') : OwnB base w' v xs :=
  h.below hb (fun g hg => (World.ownsRow.lt h g hg).2)
theorem OwnB.kept {base : Nat} {w w' : World} {v : Value} {xs : List Bool} {row : Option Nat} (h : OwnB base w v xs) (hg : w.grownBy w' row) (hne : v.ownBlock = none ∨ v.ownBlock ≠ row) : OwnB base w' v xs :=
  World.ownsRow.kept h hg hne
theorem OwnB.base {b b' : Nat} {w : World} {v : Value} {xs : List Bool} (h : OwnB b w v xs) (hb : ∀ g, v.ownBlock = some g → b' ≤ g) : OwnB b' w v xs := by
  refine ⟨h.1, ?_⟩
  rcases h.2 with hn | ⟨g, cap, cur, rfl, h1, rest⟩
  · exact .inl hn
  · exact .inr ⟨g, cap, cur, rfl, hb g rfl, rest⟩

theorem take_set_succB {zs xs : List Bool} {k : Nat} (hz : zs.length = xs.length) (hk : k < xs.length) (h : zs.take k = xs.take k) : (zs.set k xs[k]).take (k + 1) = xs.take (k + 1) := by
  apply List.ext_getElem?
  intro j
  rw [List.getElem?_take, List.getElem?_take]
  split
  · by_cases e : j = k
    · subst e; rw [List.getElem?_set_self (by omega), List.getElem?_eq_getElem hk]
    · rw [List.getElem?_set_ne (Ne.symm e)]
      have := congrArg (·[j]?) h
      simp only [List.getElem?_take] at this
      rw [if_pos (by omega), if_pos (by omega)] at this
      exact this
  · rfl
theorem take_all_eqB {zs xs : List Bool} (hz : zs.length = xs.length) (h : zs.take xs.length = xs.take xs.length) : zs = xs := by
  rw [List.take_of_length_le (by omega), List.take_of_length_le (by omega)] at h; exact h
/-- A copy of a list: a new row. -/
theorem toBoolS_any (A : Option Addr) (c : Nat) (xs : List Bool) (B : Nat) (w : World) (hn : xs.length ≤ 1048576) (hI : Bools B w A xs) (hB : B ≤ w.heap.size) :
    Calls Tryz.prog 26 #[.slice A xs.length c] w fun e w' => e = .returned (.slice (some ⟨w.heap.size, 0, none⟩) xs.length xs.length) ∧ OwnB w.heap.size w' (.slice (some ⟨w.heap.size, 0, none⟩) xs.length xs.length) xs ∧ Below w.heap.size w w' := by
  obtain ⟨i0, hi, hz0, hz1, hz2⟩ := info_parts infoB
  have hbb : i0.bytes * xs.length ≤ 281474976710656 := by rw [hz2]; omega
  have hmx : xs.length ≤ maxLen := le_max (by omega)
  go_enter Tryz.func26, Tryz.ntmps26
  go_wp2_with (at_make; refine wpList_make_full _ rfl (.tmp 6) (.tmp 6) 51 rfl w.heap.size 4 i0 (.bool false) 1 Tryz.underlying51 hi hz0 hz1 .i64 .i64 (xs.length : Int) (xs.length : Int) xs.length rfl rfl rfl rfl hbb hmx (Nat.le_refl _) ?_; intro w1 hown hgr)
  have hbe : Below w.heap.size w w1 := (Below.refl _ _).grown hgr (Nat.le_refl _) (fun k hk => by cases hk)
  have HO : ∃ zs : List Bool, zs.length = xs.length ∧ zs.take 0 = xs.take 0 ∧ w1.ownsRow w.heap.size 4 1 (.slice (some ⟨w.heap.size, 0, none⟩) xs.length xs.length) xs.length (bvals zs) := by
    refine ⟨List.replicate xs.length false, by simp, by simp, ?_⟩
    unfold bvals
    have e : (madeCells (Value.bool false).cells (xs.length * 1)).toList = (List.replicate xs.length false).map (Value.bool) := by
      rw [Nat.mul_one, List.map_replicate]
      exact toList_madeCells_one _ _
    rw [e] at hown
    exact hown
  clear hown hgr hbb hmx hi hz0 hz1 hz2
  have HH := Lib.hid HO
  clear HO
  go_wp2
  go_loopw [4] (fun i wr => ∃ k : Nat, k ≤ xs.length ∧ i = .int .i64 k ∧ Below w.heap.size w wr ∧ w.heap.size < wr.heap.size ∧ ∃ zs : List Bool, zs.length = xs.length ∧ zs.take k = xs.take k ∧ wr.ownsRow w.heap.size 4 1 (.slice (some ⟨w.heap.size, 0, none⟩) xs.length xs.length) xs.length (bvals zs)) (fun i _ => xs.length - (intOf i).toNat)
  case atStart =>
    obtain ⟨zs, h1, h2, h3⟩ := HH.out
    exact ⟨0, Nat.zero_le _, rfl, hbe, (World.ownsRow.lt h3 _ rfl).2, zs, h1, h2, h3⟩
  case round =>
    obtain ⟨k, hk, rfl, hb, hlt2, zs, hz, ht, ho⟩ := hrel
    by_cases hlt : k < xs.length
    · obtain ⟨ad, rfl, hab, hcell0⟩ := hI.at_ hlt
      have hcell : wr.cell? (ad.add k) = some (.bool xs[k]) := (hb.cell (by rw [block_add]; omega)).trans hcell0
      have hfz : wr.frozen? ⟨w.heap.size, k, none⟩ = false := World.ownsRow.frozenAt ho k
      obtain ⟨y, hold⟩ : ∃ y, wr.cell? ⟨w.heap.size, k, none⟩ = some (.bool y) := ⟨_, (World.ownsRow.cellAt ho k (by omega)).trans (bvals_get (by omega))⟩
      have HO := Lib.hid ho
      have HZ := Lib.hid hz
      have HT := Lib.hid ht
      clear ho hz ht hcell0
      obtain ⟨x, hx⟩ : ∃ x, x = xs[k] := ⟨_, rfl⟩
      rw [← hx] at hcell
      have HX := Lib.hid hx
      clear hx
      go_wp2
      go_roundw
      case rel =>
        obtain ⟨h1, h2⟩ := World.ownsRow.stored HO.out k (.bool x)
        rw [bvals_set] at h1
        refine ⟨k + 1, by omega, by go_num, hb.setCell (by simp) _, by simpa using hlt2, zs.set k x, by rw [List.length_set]; exact HZ.out, ?_, h1⟩
        rw [HX.out]
        exact take_set_succB HZ.out hlt HT.out
      case measure => simp [intOf]; omega
    · obtain rfl : k = xs.length := by omega
      have HE := Lib.hid (take_all_eqB hz ht)
      have HO := Lib.hid ho
      clear ho hz ht
      go_wp2
      go_ret
      refine ⟨rfl, ?_, hb⟩
      have h := HO.out
      rw [HE.out] at h
      exact h

/-! ### Comparison -/
theorem eqBoolS_yes (A A' : Option Addr) (c c' : Nat) (xs : List Bool) (B B' : Nat) (w : World) (hn : xs.length ≤ 1099511627776) (hI : Bools B w A xs) (hI' : Bools B' w A' xs) :
    Calls Tryz.prog 29 #[.slice A xs.length c, .slice A' xs.length c'] w fun e w' => e = .returned (.bool true) ∧ ∃ n, w.drewN n = w' := by
  go_enter Tryz.func29, Tryz.ntmps29
  go_wp2
  go_loopw [5] (fun i wr => ∃ k : Nat, k ≤ xs.length ∧ i = .int .i64 k ∧ ∃ n, w.drewN n = wr) (fun i _ => xs.length - (intOf i).toNat)
  case atStart => exact ⟨0, Nat.zero_le _, rfl, 0, rfl⟩
  case round =>
    obtain ⟨k, hk, rfl, n, rfl⟩ := hrel
    by_cases hlt : k < xs.length
    · obtain ⟨ad, rfl, _, hc1⟩ := hI.at_ hlt
      obtain ⟨ad', rfl, _, hc2⟩ := hI'.at_ hlt
      have hi1 : (k : Int) < xs.length := by omega
      have hi0 : (0 : Int) ≤ k := by omega
      generalize xs[k] = x at *
      go_wp2_with fail
      go_quiet (fail)
      go_wp2
      go_roundw
      case rel => exact ⟨k + 1, by omega, by go_num, _, rfl⟩
      case measure => simp [intOf]; omega
    · go_wp2
      go_ret
      exact ⟨rfl, _, rfl⟩

theorem markBoolS_own (A : Option Addr) (c n : Nat) (xs : List Bool) (k : Int) (base : Nat) (w : World) (hn : n ≤ 1099511627776) (h1 : 0 ≤ k) (h2 : k ≤ 1099511627776) (hl : xs.length = n) (ho : OwnB base w (.slice A n c) xs) :
    Calls Tryz.prog 31 #[.slice A n c, .int .i64 k] w fun e w' => e = .returned (.int .i64 (k + n)) ∧ True ∧ w.grownBy w' (Value.ownBlock (.slice A n c)) := by
  rcases ho.form with ⟨he, hx⟩ | ⟨g, c', he, _, _⟩
  · injection he with e1 e2 e3
    subst e1 e2 e3
    go_enter Tryz.func31, Tryz.ntmps31
    go_wp2
    go_rounds 1
    go_ret
    exact ⟨by simp, trivial, World.grownBy.refl _ _⟩
  · injection he with e1 e2 e3
    subst e1 e3
    have HW : Hid (w.ownsRow base 4 1 (.slice (some ⟨g, 0, none⟩) n c) n (bvals xs)) := Lib.hid (by have := ho; unfold OwnB at this; rw [hl] at this; exact this)
    have HL := Lib.hid hl
    clear hl ho e2
    show Calls Tryz.prog 31 _ w fun e w' => _ ∧ _ ∧ w.grownBy w' (some g)
    go_enter Tryz.func31, Tryz.ntmps31
    go_wp2
    go_loopw [1, 5] (fun q i wr => ∃ j : Nat, j ≤ n ∧ i = .int .i64 j ∧ q = .int .i64 (k + j) ∧ w.grownBy wr (some g) ∧ ∃ zs : List Bool, zs.length = n ∧ wr.ownsRow base 4 1 (.slice (some ⟨g, 0, none⟩) n c) n (bvals zs)) (fun _ i _ => n - (intOf i).toNat)
    case atStart => exact ⟨0, Nat.zero_le _, rfl, by go_num, World.grownBy.refl _ _, xs, HL.out, HW.out⟩
    case round =>
      obtain ⟨j, hj, rfl, rfl, hg, zs, hz, hr⟩ := hrel
      by_cases hlt : j < n
      · have hfz : wr.frozen? ⟨g, j, none⟩ = false := World.ownsRow.frozenAt hr j
        obtain ⟨y, hold⟩ : ∃ y, wr.cell? ⟨g, j, none⟩ = some (.bool y) := ⟨_, (World.ownsRow.cellAt hr j (by omega)).trans (bvals_get (by omega))⟩
        have HR := Lib.hid hr
        have HZ := Lib.hid hz
        clear hr hz
        go_wp2
        go_roundw
        case rel =>
          obtain ⟨r1, r2⟩ := World.ownsRow.stored HR.out j (.bool ((k + j) % 3 == 0))
          rw [bvals_set] at r1
          exact ⟨j + 1, by omega, by go_num, by go_num, hg.trans r2, zs.set j _, by rw [List.length_set]; exact HZ.out, r1⟩
        case measure => simp [intOf]; omega
      · obtain rfl : j = n := by omega
        go_wp2
        go_ret
        exact ⟨rfl, trivial, hg⟩
end Go.Proofs.YtejkoicgbgoiaaaGreat

/- What the walks of the mine laws have in common. No conditions. -/
namespace Go.Proofs.YtejkoicgbgoiaaaGreat
open Go.RowKit
open Pl
theorem apart_rows {T T' : TypeId} {s s' n n' b b' : Nat} {w w' : World} {v v' : Value} {xs ys : List Value} (h : w.ownsRow b T s v n xs) (h' : w'.ownsRow b' T' s' v' n' ys) (hs : w.heap.size ≤ b' ∨ w'.heap.size ≤ b) : v.ownBlock = none ∨ v.ownBlock ≠ v'.ownBlock := by
  cases e : v.ownBlock with
  | none => exact .inl rfl
  | some g =>
    refine .inr fun e' => ?_
    have a := World.ownsRow.lt h g e
    have c := World.ownsRow.lt h' g e'.symm
    omega
theorem szA_or (xs0 : List Aw) : szA xs0 1048576 < 0 ∨ (0 ≤ szA xs0 1048576 ∧ (xs0.length : Int) ≤ 1048576) := by
  have := idLen_nonneg xs0 xs0.length
  unfold szA
  split <;> omega
end Go.Proofs.YtejkoicgbgoiaaaGreat

/- Lists of fans (a string, a number, a list of lists): what one is in memory; the laws' own functions on them: copies, sizes, comparisons. Conditions: the lengths that each theorem names. -/
namespace Go.Proofs.YtejkoicgbgoiaaaGreat
open Go.RowKit
open Pl
structure Fa where
  id : ByteArray
  aw : Int
  cv : List (List Int)
def nFa : Fa := ⟨ByteArray.empty, 0, []⟩
/-- What lies at a fan's place. -/
def FanAt (L B : Nat) (w : World) (b o : Nat) (x : Fa) : Prop :=
  w.cell? ⟨b, o, none⟩ = some (.string x.id) ∧ w.cell? ⟨b, o + 1, none⟩ = some (.int .i64 x.aw) ∧ ∃ A' c, w.cell? ⟨b, o + 2, none⟩ = some (.slice A' x.cv.length c) ∧ NestL L B w A' x.cv
/-- From address A on lie fans that read as the list xs, all in blocks below B. -/
def Fns (B : Nat) (w : World) (A : Option Addr) (xs : List Fa) : Prop :=
  0 < xs.length → ∃ b o, A = some ⟨b, o, none⟩ ∧ b < B ∧ ∀ k, k < xs.length → FanAt 0 B w b (o + k * 3) (xs.getD k nFa)
theorem Nest.low {B : Nat} {w : World} {A : Option Addr} {xss : List (List Int)} (h : Nest B w A xss) : NestL 0 B w A xss := by
  intro hn
  obtain ⟨b, o, e, hlt, hc⟩ := h hn
  refine ⟨b, o, e, Nat.zero_le _, hlt, fun k hk => ?_⟩
  obtain ⟨A', c, h1, h2⟩ := hc k hk
  exact ⟨A', c, h1, h2, fun _ _ => Nat.zero_le _⟩
theorem Nest.belowL {L B : Nat} {w w' : World} {A : Option Addr} {xss : List (List Int)} (h : NestL L B w A xss) (hb : Below B w w') : NestL L B w' A xss := by
  intro hn
  obtain ⟨b, o, e, hl, hlt, hc⟩ := h hn
  refine ⟨b, o, e, hl, hlt, fun k hk => ?_⟩
  obtain ⟨A', c, h1, h2, h3⟩ := hc k hk
  exact ⟨A', c, (hb.cell (p := ⟨b, o + k, none⟩) hlt).trans h1, h2.below hb, h3⟩
theorem NestL.more {L B B' : Nat} {w : World} {A : Option Addr} {xss : List (List Int)} (h : NestL L B w A xss) (hB : B ≤ B') : NestL L B' w A xss := by
  intro hn
  obtain ⟨b, o, e, hl, hlt, hc⟩ := h hn
  refine ⟨b, o, e, hl, by omega, fun k hk => ?_⟩
  obtain ⟨A', c, h1, h2, h3⟩ := hc k hk
  exact ⟨A', c, h1, h2.more hB, h3⟩
theorem FanAt.below {L B : Nat} {w w' : World} {b o : Nat} {x : Fa} (h : FanAt L B w b o x) (hlt : b < B) (hb : Below B w w') : FanAt L B w' b o x := by
  obtain ⟨h0, h1, A', c, h2, h3⟩ := h
  exact ⟨(hb.cell (p := ⟨b, o, none⟩) hlt).trans h0, (hb.cell (p := ⟨b, o + 1, none⟩) hlt).trans h1, A', c, (hb.cell (p := ⟨b, o + 2, none⟩) hlt).trans h2, Nest.belowL h3 hb⟩
/-- As 'Fns', and all of it in blocks from L on. -/
def FnsL (L B : Nat) (w : World) (A : Option Addr) (xs : List Fa) : Prop :=
  0 < xs.length → ∃ b o, A = some ⟨b, o, none⟩ ∧ L ≤ b ∧ b < B ∧ ∀ k, k < xs.length → FanAt L B w b (o + k * 3) (xs.getD k nFa)
theorem FnsL.fns {L B : Nat} {w : World} {A : Option Addr} {xs : List Fa} (h : FnsL L B w A xs) : Fns B w A xs := by
  intro hn
  obtain ⟨b, o, e, _, hlt, hc⟩ := h hn
  refine ⟨b, o, e, hlt, fun k hk => ?_⟩
  obtain ⟨h0, h1, A', c, h2, h3⟩ := hc k hk
  exact ⟨h0, h1, A', c, h2, h3.less (Nat.zero_le _)⟩
theorem FnsL.less {L L' B : Nat} {w : World} {A : Option Addr} {xs : List Fa} (h : FnsL L B w A xs) (hL : L' ≤ L) : FnsL L' B w A xs := by
  intro hn
  obtain ⟨b, o, e, hl, hlt, hc⟩ := h hn
  refine ⟨b, o, e, by omega, hlt, fun k hk => ?_⟩
  obtain ⟨h0, h1, A', c, h2, h3⟩ := hc k hk
  exact ⟨h0, h1, A', c, h2, h3.less hL⟩
theorem Fns.nil {B : Nat} {w : World} {A : Option Addr} : Fns B w A [] := fun h => by simp at h
theorem Fns.below {B : Nat} {w w' : World} {A : Option Addr} {xs : List Fa} (h : Fns B w A xs) (hb : Below B w w') : Fns B w' A xs := by
  intro hn
  obtain ⟨b, o, e, hlt, hc⟩ := h hn
  exact ⟨b, o, e, hlt, fun k hk => (hc k hk).below hlt hb⟩
theorem Fns.more {B B' : Nat} {w : World} {A : Option Addr} {xs : List Fa} (h : Fns B w A xs) (hB : B ≤ B') : Fns B' w A xs := by
  intro hn
  obtain ⟨b, o, e, hlt, hc⟩ := h hn
  refine ⟨b, o, e, by omega, fun k hk => ?_⟩
  obtain ⟨h0, h1, A', c, h2, h3⟩ := hc k hk
  exact ⟨h0, h1, A', c, h2, h3.more hB⟩
theorem Fns.later {w w' : World} {A : Option Addr} {xs : List Fa} (h : Fns w.heap.size w A xs) (hb : Below w.heap.size w w') : Fns w'.heap.size w' A xs := (h.below hb).more hb.size
theorem Fns.at_ {B : Nat} {w : World} {A : Option Addr} {xs : List Fa} (h : Fns B w A xs) {k : Nat} (hk : k < xs.length) {s : ByteArray} {a : Int} {cv : List (List Int)} (e : xs.getD k nFa = ⟨s, a, cv⟩) :
    ∃ b o A' c, A = some ⟨b, o, none⟩ ∧ b < B ∧ w.cell? ⟨b, o + k * 3, none⟩ = some (.string s) ∧ w.cell? ⟨b, o + k * 3 + 1, none⟩ = some (.int .i64 a) ∧ w.cell? ⟨b, o + k * 3 + 2, none⟩ = some (.slice A' cv.length c) ∧ Nest B w A' cv := by
  obtain ⟨b, o, ea, hb, hc⟩ := h (by omega)
  obtain ⟨h0, h1, A', c, h2, h3⟩ := hc k hk
  rw [e] at h0 h1 h2 h3
  exact ⟨b, o, A', c, ea, hb, h0, h1, h2, h3.nest⟩
theorem getD_fa {xs : List Fa} {k : Nat} (h : k < xs.length) : xs.getD k nFa = xs[k] := by simp [List.getD, h]
/-- The lengths that a law's test bounds. -/
def FansLen (xs : List Fa) : Prop := ∀ x ∈ xs, x.cv.length ≤ 1048576 ∧ ∀ l ∈ x.cv, l.length ≤ 1048576
theorem put3 {w : World} {b : Nat} {u0 u1 u2 : Value} (v0 v1 v2 : Value) (c0 : w.cell? ⟨b, 0, none⟩ = some u0) (c1 : w.cell? ⟨b, 1, none⟩ = some u1) (c2 : w.cell? ⟨b, 2, none⟩ = some u2) :
    (((w.setCell ⟨b, 0, none⟩ v0).setCell ⟨b, 1, none⟩ v1).setCell ⟨b, 2, none⟩ v2).cell? ⟨b, 0, none⟩ = some v0 ∧ (((w.setCell ⟨b, 0, none⟩ v0).setCell ⟨b, 1, none⟩ v1).setCell ⟨b, 2, none⟩ v2).cell? ⟨b, 1, none⟩ = some v1 ∧ (((w.setCell ⟨b, 0, none⟩ v0).setCell ⟨b, 1, none⟩ v1).setCell ⟨b, 2, none⟩ v2).cell? ⟨b, 2, none⟩ = some v2 := by
  have ne : ∀ i j : Nat, i ≠ j → (⟨b, i, none⟩ : Addr) ≠ ⟨b, j, none⟩ := fun i j h e => h (by injection e)
  have e0 : (w.setCell ⟨b, 0, none⟩ v0).cell? ⟨b, 0, none⟩ = some v0 := World.cell?_setCell_same _ _ _ c0
  have o0 : ∀ i u, i ≠ 0 → w.cell? ⟨b, i, none⟩ = some u → (w.setCell ⟨b, 0, none⟩ v0).cell? ⟨b, i, none⟩ = some u := fun i u hi h => (World.cell?_setCell_other _ _ _ _ (ne 0 i (Ne.symm hi))).trans h
  have e1 : ((w.setCell ⟨b, 0, none⟩ v0).setCell ⟨b, 1, none⟩ v1).cell? ⟨b, 1, none⟩ = some v1 := World.cell?_setCell_same _ _ _ (o0 1 _ (by decide) c1)
  have o1 : ∀ i u, i ≠ 1 → (w.setCell ⟨b, 0, none⟩ v0).cell? ⟨b, i, none⟩ = some u → ((w.setCell ⟨b, 0, none⟩ v0).setCell ⟨b, 1, none⟩ v1).cell? ⟨b, i, none⟩ = some u := fun i u hi h => (World.cell?_setCell_other _ _ _ _ (ne 1 i (Ne.symm hi))).trans h
  have o2 : ∀ i u, i ≠ 2 → ((w.setCell ⟨b, 0, none⟩ v0).setCell ⟨b, 1, none⟩ v1).cell? ⟨b, i, none⟩ = some u → (((w.setCell ⟨b, 0, none⟩ v0).setCell ⟨b, 1, none⟩ v1).setCell ⟨b, 2, none⟩ v2).cell? ⟨b, i, none⟩ = some u := fun i u hi h => (World.cell?_setCell_other _ _ _ _ (ne 2 i (Ne.symm hi))).trans h
  exact ⟨o2 0 _ (by decide) (o1 0 _ (by decide) e0), o2 1 _ (by decide) e1, World.cell?_setCell_same _ _ _ (o1 2 _ (by decide) (o0 2 _ (by decide) c2))⟩
set_option maxHeartbeats 1600000 in
theorem toFan_any (s : ByteArray) (a : Int) (A : Option Addr) (c : Nat) (cv : List (List Int)) (B : Nat) (w : World) (hn : cv.length ≤ 1048576) (hl : ∀ xs ∈ cv, xs.length ≤ 1048576) (hI : Nest B w A cv) (hB : B ≤ w.heap.size) :
    Calls Tryz.prog 38 #[.agg #[.string s, .int .i64 a, .slice A cv.length c]] w fun e w' => ∃ A' c', e = .returned (.agg #[.string s, .int .i64 a, .slice A' cv.length c']) ∧ NestL w.heap.size w'.heap.size w' A' cv ∧ Below w.heap.size w w' := by
  have J0 := Lib.hid (hI.more hB)
  have HLn := Lib.hid hl
  clear hI hl
  have hb0 : Below w.heap.size w (((w.alloc (.cells #[.string s, .int .i64 a, .slice A cv.length c] 70)).alloc (.cells #[.string ⟨#[]⟩, .int .i64 0, .slice none 0 0] 74)).alloc (.cells #[.string s, .int .i64 a, .slice none 0 0] 74)) := by go_grown
  have HB := Lib.hid hb0
  clear hb0
  go_enter Tryz.func38, Tryz.ntmps38
  go_wp2_with fail
  refine (toInt64SS_low A c cv w.heap.size _ hn HLn.out (J0.out.below HB.out) (by simp <;> omega)).mono ?_
  rintro e w1 ⟨rfl, ho, hb1⟩
  obtain ⟨hc1, hf1⟩ := bcell hb1
  have hz : w.heap.size + 1 + 1 < w1.heap.size := by have := hb1.size; simp at this; omega
  have hbe := HB.out.trans (hb1.mono (by simp <;> omega))
  have HO := Lib.hid ho
  have q1 : w.heap.size + 1 < ((((w.alloc (.cells #[.string s, .int .i64 a, .slice A cv.length c] 70)).alloc (.cells #[.string ⟨#[]⟩, .int .i64 0, .slice none 0 0] 74)).alloc (.cells #[.string s, .int .i64 a, .slice none 0 0] 74))).heap.size := by simp
  have q2 : w.heap.size + 1 + 1 < ((((w.alloc (.cells #[.string s, .int .i64 a, .slice A cv.length c] 70)).alloc (.cells #[.string ⟨#[]⟩, .int .i64 0, .slice none 0 0] 74)).alloc (.cells #[.string s, .int .i64 a, .slice none 0 0] 74))).heap.size := by simp
  have d0 : w1.cell? ⟨w.heap.size + 1 + 1, 0, none⟩ = some (.string s) := by rw [hc1 _ _ q2]; go_simp
  have d1 : w1.cell? ⟨w.heap.size + 1 + 1, 1, none⟩ = some (.int .i64 a) := by rw [hc1 _ _ q2]; go_simp
  have d2 : w1.cell? ⟨w.heap.size + 1 + 1, 2, none⟩ = some (.slice none 0 0) := by rw [hc1 _ _ q2]; go_simp
  have d3 : w1.cell? ⟨w.heap.size + 1, 0, none⟩ = some (.string ⟨#[]⟩) := by rw [hc1 _ _ q1]; go_simp
  have d4 : w1.cell? ⟨w.heap.size + 1, 1, none⟩ = some (.int .i64 0) := by rw [hc1 _ _ q1]; go_simp
  have d5 : w1.cell? ⟨w.heap.size + 1, 2, none⟩ = some (.slice none 0 0) := by rw [hc1 _ _ q1]; go_simp
  have f2 : w1.frozen? ⟨w.heap.size + 1 + 1, 2, none⟩ = false := by rw [hf1 _ _ q2]; go_simp
  have f3 : w1.frozen? ⟨w.heap.size + 1, 0, none⟩ = false := by rw [hf1 _ _ q1]; go_simp
  have f4 : w1.frozen? ⟨w.heap.size + 1, 1, none⟩ = false := by rw [hf1 _ _ q1]; go_simp
  have f5 : w1.frozen? ⟨w.heap.size + 1, 2, none⟩ = false := by rw [hf1 _ _ q1]; go_simp
  clear hc1 hf1 hb1 ho q1 q2
  go_wp2_with fail
  have t3 := (World.cell?_setCell_other w1 ⟨w.heap.size + 1 + 1, 2, none⟩ ⟨w.heap.size + 1, 0, none⟩ (.slice (some ⟨w.heap.size + 1 + 1 + 1, 0, none⟩) cv.length cv.length) (by simp)).trans d3
  have t4 := (World.cell?_setCell_other w1 ⟨w.heap.size + 1 + 1, 2, none⟩ ⟨w.heap.size + 1, 1, none⟩ (.slice (some ⟨w.heap.size + 1 + 1 + 1, 0, none⟩) cv.length cv.length) (by simp)).trans d4
  have t5 := (World.cell?_setCell_other w1 ⟨w.heap.size + 1 + 1, 2, none⟩ ⟨w.heap.size + 1, 2, none⟩ (.slice (some ⟨w.heap.size + 1 + 1 + 1, 0, none⟩) cv.length cv.length) (by simp)).trans d5
  obtain ⟨r0, r1, r2⟩ := put3 (.string s) (.int .i64 a) (.slice (some ⟨w.heap.size + 1 + 1 + 1, 0, none⟩) cv.length cv.length) t3 t4 t5
  refine bodyPost_ret (v := .agg #[.string s, .int .i64 a, (.slice (some ⟨w.heap.size + 1 + 1 + 1, 0, none⟩) cv.length cv.length)]) (by simp [results, Tryz.results38, go_sem, r0, r1, r2]) rfl ⟨_, _, rfl, ?_, (((hbe.setCell (by simp <;> omega) _).setCell (by simp) _).setCell (by simp) _).setCell (by simp) _⟩
  have h := HO.out
  have hs : ((((w.alloc (.cells #[.string s, .int .i64 a, .slice A cv.length c] 70)).alloc (.cells #[.string ⟨#[]⟩, .int .i64 0, .slice none 0 0] 74)).alloc (.cells #[.string s, .int .i64 a, .slice none 0 0] 74))).heap.size = w.heap.size + 1 + 1 + 1 := by simp
  rw [hs] at h
  have h4 := (((h.setCell (p := ⟨w.heap.size + 1 + 1, 2, none⟩) (v := (.slice (some ⟨w.heap.size + 1 + 1 + 1, 0, none⟩) cv.length cv.length)) (by simp)).setCell (p := ⟨w.heap.size + 1, 0, none⟩) (v := .string s) (by simp <;> omega)).setCell (p := ⟨w.heap.size + 1, 1, none⟩) (v := .int .i64 a) (by simp <;> omega)).setCell (p := ⟨w.heap.size + 1, 2, none⟩) (v := (.slice (some ⟨w.heap.size + 1 + 1 + 1, 0, none⟩) cv.length cv.length)) (by simp <;> omega)
  simpa using h4.less (by omega)
theorem infoFa : (Tryz.prog.info? 74).map (fun i => (i.zero, i.size, i.bytes)) = some (some (.agg #[.string ByteArray.empty, .int .i64 0, .slice none 0 0]), 3, 48) := by kernel_rfl
/-- The fans that have been copied so far: cells zs of the row in block g. -/
def CopiedF (g : Nat) (w : World) (zs : List Value) (xs : List Fa) (k : Nat) : Prop :=
  ∀ j, j < k → zs[j * 3]? = some (.string (xs.getD j nFa).id) ∧ zs[j * 3 + 1]? = some (.int .i64 (xs.getD j nFa).aw) ∧ ∃ A' c, zs[j * 3 + 2]? = some (.slice A' (xs.getD j nFa).cv.length c) ∧ NestL (g + 1) w.heap.size w A' (xs.getD j nFa).cv
set_option maxRecDepth 100000 in
set_option maxHeartbeats 1600000 in
theorem toFanS_low (A : Option Addr) (c : Nat) (xs : List Fa) (B : Nat) (w : World) (hn : xs.length ≤ 1048576) (hl : FansLen xs) (hI : Fns B w A xs) (hB : B ≤ w.heap.size) :
    Calls Tryz.prog 12 #[.slice A xs.length c] w fun e w' => e = .returned (.slice (some ⟨w.heap.size, 0, none⟩) xs.length xs.length) ∧ FnsL w.heap.size w'.heap.size w' (some ⟨w.heap.size, 0, none⟩) xs ∧ Below w.heap.size w w' := by
  obtain ⟨i0, hi, hz0, hz1, hz2⟩ := info_parts infoFa
  have hbb : i0.bytes * xs.length ≤ 281474976710656 := by rw [hz2]; omega
  have hmx : xs.length ≤ maxLen := le_max (by omega)
  have J := Lib.hid (hI.more hB)
  have HL := Lib.hid hl
  clear hI hl
  go_enter Tryz.func12, Tryz.ntmps12
  go_wp2_with (at_make; refine wpList_make_full _ rfl (.tmp 6) (.tmp 6) 36 rfl w.heap.size 74 i0 (.agg #[.string ByteArray.empty, .int .i64 0, .slice none 0 0]) 3 Tryz.underlying36 hi hz0 hz1 .i64 .i64 (xs.length : Int) (xs.length : Int) xs.length rfl rfl rfl rfl hbb hmx (Nat.le_refl _) ?_; intro w1 hown hgr)
  have hbe : Below w.heap.size w w1 := (Below.refl _ _).grown hgr (Nat.le_refl _) (fun k hk => by cases hk)
  have HO : ∃ zs : List Value, zs.length = xs.length * 3 ∧ w1.ownsRow w.heap.size 74 3 (.slice (some ⟨w.heap.size, 0, none⟩) xs.length xs.length) xs.length zs := ⟨_, by simp [madeCells], hown⟩
  clear hown hgr hbb hmx hi hz0 hz1 hz2
  have HH := Lib.hid HO
  clear HO
  go_wp2
  go_loopw [4] (fun i wr => ∃ k : Nat, k ≤ xs.length ∧ i = .int .i64 k ∧ Below w.heap.size w wr ∧ w.heap.size < wr.heap.size ∧ ∃ zs : List Value, zs.length = xs.length * 3 ∧ CopiedF w.heap.size wr zs xs k ∧ wr.ownsRow w.heap.size 74 3 (.slice (some ⟨w.heap.size, 0, none⟩) xs.length xs.length) xs.length zs) (fun i _ => xs.length - (intOf i).toNat)
  case atStart =>
    obtain ⟨zs, h1, h3⟩ := HH.out
    exact ⟨0, Nat.zero_le _, rfl, hbe, (World.ownsRow.lt h3 _ rfl).2, zs, h1, fun j hj => by omega, h3⟩
  case round =>
    obtain ⟨k, hk, rfl, hb, hlt2, zs, hz, ht, ho⟩ := hrel
    by_cases hlt : k < xs.length
    · obtain ⟨⟨s, a, cv⟩, hx⟩ : ∃ x, xs.getD k nFa = x := ⟨_, rfl⟩
      obtain ⟨b, o, A', c', rfl, hab, c0, c1, c2, hI'⟩ := (J.out.below hb).at_ hlt hx
      have hll : cv.length ≤ 1048576 ∧ ∀ l ∈ cv, l.length ≤ 1048576 := by
        have := HL.out _ (List.getElem_mem hlt)
        rw [← getD_fa hlt, hx] at this
        exact this
      have HT := Lib.hid ht
      have HZ := Lib.hid hz
      have HO := Lib.hid ho
      have HX := Lib.hid hx
      have HC := Lib.hid (toFan_any s a A' c' cv w.heap.size wr hll.1 hll.2 hI' hb.size)
      have j0 : (0 : Int) ≤ (k : Int) := by omega
      have j1 : (k : Int) < xs.length := by omega
      clear ho hz ht hx hI' hll
      go_wp2_with fail
      refine HC.out.mono ?_
      rintro e w2 ⟨A2, c2', rfl, ho2, hb2⟩
      have hown2 := HO.out
      have hbw : Below w.heap.size w w2 := hb.trans (hb2.mono hb.size)
      have hO2 : w2.ownsRow w.heap.size 74 3 (.slice (some ⟨w.heap.size, 0, none⟩) xs.length xs.length) xs.length zs := by
        refine ⟨hown2.1, ?_⟩
        rcases hown2.2 with hn' | ⟨g, cap, cur, e1, e2, e3, rest⟩
        · exact .inl hn'
        · refine .inr ⟨g, cap, cur, e1, e2, (hb2.block g ?_).trans e3, rest⟩
          have := (World.ownsRow.lt hown2 g (by rw [e1]; rfl)).2
          exact this
      have hz2 : w.heap.size < w2.heap.size := by have := hb2.size; omega
      have hzl := HZ.out
      have q0 := World.ownsRow.cellAt hO2 (k * 3) (by omega)
      have q1 := World.ownsRow.cellAt hO2 (k * 3 + 1) (by omega)
      have q2 := World.ownsRow.cellAt hO2 (k * 3 + 2) (by omega)
      rw [List.getElem?_eq_getElem (by omega)] at q0 q1 q2
      have f0 := World.ownsRow.frozenAt hO2 (k * 3)
      have f1 := World.ownsRow.frozenAt hO2 (k * 3 + 1)
      have f2 := World.ownsRow.frozenAt hO2 (k * 3 + 2)
      generalize zs[k * 3]'(by omega) = y0 at *
      generalize zs[k * 3 + 1]'(by omega) = y1 at *
      generalize zs[k * 3 + 2]'(by omega) = y2 at *
      have HO2 := Lib.hid hO2
      have HI2 := Lib.hid ho2
      clear hO2 ho2 hown2 hzl c0 c1 c2
      go_wp2_with fail
      go_roundw
      case rel =>
        obtain ⟨r0, _⟩ := World.ownsRow.stored HO2.out (k * 3) (.string s)
        obtain ⟨r1, _⟩ := World.ownsRow.stored r0 (k * 3 + 1) (.int .i64 a)
        obtain ⟨r2, _⟩ := World.ownsRow.stored r1 (k * 3 + 2) (.slice A2 cv.length c2')
        have keep : ∀ {A3 : Option Addr} {ys : List (List Int)}, NestL (w.heap.size + 1) w2.heap.size w2 A3 ys → NestL (w.heap.size + 1) (((w2.setCell ⟨w.heap.size, k * 3, none⟩ (.string s)).setCell ⟨w.heap.size, k * 3 + 1, none⟩ (.int .i64 a)).setCell ⟨w.heap.size, k * 3 + 2, none⟩ (.slice A2 cv.length c2')).heap.size (((w2.setCell ⟨w.heap.size, k * 3, none⟩ (.string s)).setCell ⟨w.heap.size, k * 3 + 1, none⟩ (.int .i64 a)).setCell ⟨w.heap.size, k * 3 + 2, none⟩ (.slice A2 cv.length c2')) A3 ys := fun h => by
          have := ((h.setCell (p := ⟨w.heap.size, k * 3, none⟩) (v := .string s) (by simp)).setCell (p := ⟨w.heap.size, k * 3 + 1, none⟩) (v := .int .i64 a) (by simp)).setCell (p := ⟨w.heap.size, k * 3 + 2, none⟩) (v := .slice A2 cv.length c2') (by simp)
          simpa using this
        have hzl := HZ.out
        refine ⟨k + 1, by omega, by go_num, ((hbw.setCell (by simp) _).setCell (by simp) _).setCell (by simp) _, by simpa using hz2, _, by simpa using hzl, ?_, r2⟩
        intro j hj
        by_cases e : j = k
        · subst e
          rw [HX.out]
          refine ⟨?_, ?_, A2, c2', ?_, keep (HI2.out.less (by omega))⟩
          · rw [List.getElem?_set_ne (by omega), List.getElem?_set_ne (by omega), List.getElem?_set_self (by omega)]
          · rw [List.getElem?_set_ne (by omega), List.getElem?_set_self (by rw [List.length_set]; omega)]
          · rw [List.getElem?_set_self (by rw [List.length_set, List.length_set]; omega)]
        · obtain ⟨g0, g1, A1, c1', g2, g3⟩ := HT.out j (by omega)
          refine ⟨?_, ?_, A1, c1', ?_, keep (g3.later hb2)⟩
          · rw [List.getElem?_set_ne (by omega), List.getElem?_set_ne (by omega), List.getElem?_set_ne (by omega)]; exact g0
          · rw [List.getElem?_set_ne (by omega), List.getElem?_set_ne (by omega), List.getElem?_set_ne (by omega)]; exact g1
          · rw [List.getElem?_set_ne (by omega), List.getElem?_set_ne (by omega), List.getElem?_set_ne (by omega)]; exact g2
      case measure => simp [intOf]; omega
    · obtain rfl : k = xs.length := by omega
      have HT := Lib.hid ht
      have HO := Lib.hid ho
      have HZ := Lib.hid hz
      clear ho hz ht
      go_wp2
      go_ret
      refine ⟨rfl, fun _ => ⟨w.heap.size, 0, rfl, Nat.le_refl _, hlt2, fun k hk => ?_⟩, hb⟩
      obtain ⟨g0, g1, A1, c1', g2, g3⟩ := HT.out k hk
      rw [Nat.zero_add]
      refine ⟨(World.ownsRow.cellAt HO.out (k * 3) (by omega)).trans g0, (World.ownsRow.cellAt HO.out (k * 3 + 1) (by omega)).trans g1, A1, c1', (World.ownsRow.cellAt HO.out (k * 3 + 2) (by omega)).trans g2, g3.less (by omega)⟩
theorem szL_or (xss : List (List Int)) (left : Int) : szL xss left = -1 ∨ (0 ≤ szL xss left ∧ szL xss left ≤ left ∧ (xss.length : Int) ≤ left ∧ ∀ xs ∈ xss, (xs.length : Int) ≤ left) := by
  have h0 := totLen_nonneg xss xss.length
  unfold szL
  split
  · rename_i h
    refine .inr ⟨by omega, by omega, by omega, fun xs hx => ?_⟩
    obtain ⟨i, hi, rfl⟩ := List.mem_iff_getElem.1 hx
    have h1 := totLen_nonneg xss i
    have h2 : totLen xss (i + 1) = totLen xss i + (xss.getD i []).length := rfl
    have h3 := totLen_mono xss (xss.length - (i + 1)) (i + 1)
    rw [show i + 1 + (xss.length - (i + 1)) = xss.length by omega] at h3
    rw [getD_il hi] at h2
    omega
  · exact .inl rfl
def szFa (x : Fa) (left : Int) : Int := if left < x.id.size then -1 else szL x.cv (left - x.id.size)
theorem szFa_or (x : Fa) (left : Int) (_ : 0 ≤ left) : szFa x left = -1 ∨ (0 ≤ szFa x left ∧ szFa x left ≤ left ∧ (x.cv.length : Int) ≤ left ∧ ∀ xs ∈ x.cv, (xs.length : Int) ≤ left) := by
  unfold szFa
  split
  · exact .inl rfl
  · rcases szL_or x.cv (left - x.id.size) with h | ⟨h1, h2, h3, h4⟩
    · exact .inl h
    · exact .inr ⟨h1, by omega, by omega, fun xs hx => by have := h4 xs hx; omega⟩
/-- What is left behind k fans. -/
def stF (xs : List Fa) (left : Int) : Nat → Int | 0 => left - xs.length | k + 1 => if stF xs left k < 0 then -1 else szFa (xs.getD k nFa) (stF xs left k)
theorem stF_neg (xs : List Fa) (left : Int) : ∀ (d k : Nat), stF xs left k < 0 → stF xs left (k + d) < 0
  | 0, _, h => h
  | d + 1, k, h => by
    have ih := stF_neg xs left d k h
    show (if stF xs left (k + d) < 0 then -1 else szFa (xs.getD (k + d) nFa) (stF xs left (k + d))) < 0
    rw [if_pos ih]; decide
theorem stF_le (xs : List Fa) (left : Int) : ∀ k : Nat, 0 ≤ left → stF xs left k ≤ left
  | 0, _ => by unfold stF; omega
  | k + 1, h0 => by
    have ih := stF_le xs left k h0
    unfold stF
    split
    · omega
    · rename_i h
      rcases szFa_or (xs.getD k nFa) (stF xs left k) (by omega) with e | ⟨_, h2, _⟩ <;> omega
def szF (xs : List Fa) (left : Int) : Int := if stF xs left xs.length < 0 then -1 else stF xs left xs.length
theorem szF_or (xs : List Fa) (left : Int) (h : left ≤ 1048576) (h0 : 0 ≤ left) : szF xs left = -1 ∨ (0 ≤ szF xs left ∧ szF xs left ≤ left ∧ (xs.length : Int) ≤ 1048576 ∧ FansLen xs) := by
  unfold szF
  split
  · exact .inl rfl
  · rename_i hp
    have hk : ∀ k, k ≤ xs.length → 0 ≤ stF xs left k := fun k hk => by
      rcases Int.lt_or_le (stF xs left k) 0 with h' | h'
      · have := stF_neg xs left (xs.length - k) k h'
        rw [show k + (xs.length - k) = xs.length by omega] at this
        omega
      · exact h'
    have h00 := hk 0 (Nat.zero_le _)
    unfold stF at h00
    refine .inr ⟨by omega, stF_le xs left _ h0, by omega, fun x hx => ?_⟩
    obtain ⟨i, hi, rfl⟩ := List.mem_iff_getElem.1 hx
    have h1 := hk i (by omega)
    have h2 := hk (i + 1) (by omega)
    have hle := stF_le xs left i h0
    unfold stF at h2
    rw [if_neg (by omega), getD_fa hi] at h2
    rcases szFa_or xs[i] (stF xs left i) h1 with e | ⟨_, _, h3, h4⟩
    · omega
    · exact ⟨by omega, fun l hl => by have := h4 l hl; omega⟩
/-- All names are strings of a length that can be, all numbers fit. -/
def FitsF (xs : List Fa) : Prop := ∀ x ∈ xs, x.id.size ≤ maxLen ∧ (-9223372036854775808 ≤ x.aw ∧ x.aw ≤ 9223372036854775807) ∧ x.cv.length ≤ maxLen ∧ ∀ l ∈ x.cv, l.length ≤ maxLen ∧ Fits l
theorem szFan_any (s : ByteArray) (a : Int) (A : Option Addr) (c : Nat) (cv : List (List Int)) (left : Int) (B : Nat) (w : World) (h1 : 0 ≤ left) (h0 : left ≤ 1048576) (hs : s.size ≤ maxLen) (hn : cv.length ≤ maxLen) (hl : ∀ xs ∈ cv, xs.length ≤ maxLen) (hI : Nest B w A cv) (hB : B ≤ w.heap.size) :
    Calls Tryz.prog 35 #[.agg #[.string s, .int .i64 a, .slice A cv.length c], .int .i64 left] w fun e w' => e = .returned (.int .i64 (szFa ⟨s, a, cv⟩ left)) ∧ Below w.heap.size w w' := by
  obtain ⟨R, hR⟩ : ∃ R, R = szFa ⟨s, a, cv⟩ left := ⟨_, rfl⟩
  rw [← hR]
  have HR := Lib.hid hR
  clear hR
  have hb0 : Below w.heap.size w (w.alloc (.cells #[.string s, .int .i64 a, .slice A cv.length c] 70)) := by go_grown
  by_cases h2 : left < s.size
  · have HF : Hid (szFa ⟨s, a, cv⟩ left = -1) := Lib.hid (by unfold szFa; rw [if_pos h2])
    unfold maxLen at hs
    clear hI hl hn
    go_enter Tryz.func35, Tryz.ntmps35
    go_wp2
    go_ret
    exact ⟨ret_int (by rw [HR.out, HF.out]), hb0⟩
  · have HF : Hid (szFa ⟨s, a, cv⟩ left = szL cv (left - s.size)) := Lib.hid (by unfold szFa; rw [if_neg h2])
    have HC := Lib.hid (szInt64SS_any A c cv (left - s.size) w.heap.size _ (by omega) (by omega) hn hl ((hI.more hB).below hb0))
    have HOr := szL_or cv (left - s.size)
    clear hI hl hn
    generalize szL cv (left - s.size) = t at *
    by_cases ht : t < 0
    · have e : t = -1 := by omega
      go_enter Tryz.func35, Tryz.ntmps35
      go_wp2_with (go_at_call 49; refine (HC.out).mono ?_; rintro e w' ⟨rfl, rfl⟩)
      go_ret
      exact ⟨ret_int (by rw [HR.out, HF.out, e]), hb0⟩
    · go_enter Tryz.func35, Tryz.ntmps35
      go_wp2_with (go_at_call 49; refine (HC.out).mono ?_; rintro e w' ⟨rfl, rfl⟩)
      go_ret
      exact ⟨ret_int (by rw [HR.out, HF.out]), hb0⟩
set_option maxRecDepth 100000 in
theorem szFanS_any (A : Option Addr) (c : Nat) (xs : List Fa) (left : Int) (B : Nat) (w : World) (h1 : 0 ≤ left) (h0 : left ≤ 1048576) (hn : xs.length ≤ maxLen) (hF : FitsF xs) (hI : Fns B w A xs) (hB : B ≤ w.heap.size) :
    Calls Tryz.prog 8 #[.slice A xs.length c, .int .i64 left] w fun e w' => e = .returned (.int .i64 (szF xs left)) ∧ Below w.heap.size w w' := by
  obtain ⟨R, hR⟩ : ∃ R, R = szF xs left := ⟨_, rfl⟩
  rw [← hR]
  have HR := Lib.hid hR
  clear hR
  have J := Lib.hid (hI.more hB)
  have HFF := Lib.hid hF
  have HSt := Lib.hid (fun k => stF_le xs left k h1)
  have HNg := Lib.hid (stF_neg xs left)
  clear hI hF
  unfold maxLen at hn
  by_cases h2 : left < xs.length
  · have HF : Hid (szF xs left = -1) := Lib.hid (by
      have h00 : stF xs left 0 < 0 := by unfold stF; omega
      have := stF_neg xs left xs.length 0 h00
      rw [Nat.zero_add] at this
      unfold szF; rw [if_pos this])
    go_enter Tryz.func8, Tryz.ntmps8
    go_wp2
    go_ret
    exact ⟨ret_int (by rw [HR.out, HF.out]), Below.refl _ _⟩
  go_enter Tryz.func8, Tryz.ntmps8
  go_wp2
  go_loopw [1, 5] (fun s i wr => ∃ k : Nat, k ≤ xs.length ∧ i = .int .i64 k ∧ s = .int .i64 (stF xs left k) ∧ 0 ≤ stF xs left k ∧ Below w.heap.size w wr) (fun _ i _ => xs.length - (intOf i).toNat)
  case atStart => exact ⟨0, Nat.zero_le _, rfl, by simp [stF], by simp [stF]; omega, Below.refl _ _⟩
  case round =>
    obtain ⟨k, hk, rfl, rfl, hle, hb⟩ := hrel
    have hu := HSt.out k
    by_cases hlt : k < xs.length
    · obtain ⟨⟨s, a, cv⟩, hx⟩ : ∃ x, xs.getD k nFa = x := ⟨_, rfl⟩
      obtain ⟨b, o, A', c', rfl, hab, c0, c1, c2, hI'⟩ := (J.out.below hb).at_ hlt hx
      have hff : s.size ≤ maxLen ∧ (-9223372036854775808 ≤ a ∧ a ≤ 9223372036854775807) ∧ cv.length ≤ maxLen ∧ ∀ l ∈ cv, l.length ≤ maxLen ∧ Fits l := by
        have := HFF.out _ (List.getElem_mem hlt)
        rw [← getD_fa hlt, hx] at this
        exact this
      have HS : Hid (stF xs left (k + 1) = szFa ⟨s, a, cv⟩ (stF xs left k)) := Lib.hid (by
        show (if stF xs left k < 0 then -1 else szFa (xs.getD k nFa) (stF xs left k)) = _
        rw [if_neg (by omega), hx])
      have HC := Lib.hid (szFan_any s a A' c' cv (stF xs left k) w.heap.size wr hle (by omega) hff.1 hff.2.2.1 (fun l hl => (hff.2.2.2 l hl).1) hI' hb.size)
      have i0 : (0 : Int) ≤ (k : Int) := by omega
      have i1 : (k : Int) < xs.length := by omega
      have hu2 := HSt.out (k + 1)
      rw [← HS.out] at HC
      clear hI' hff hx
      generalize hsn : stF xs left (k + 1) = t at *
      have HT := Lib.hid hsn
      generalize stF xs left k = t0 at *
      clear hsn
      by_cases ht : t < 0
      · have HF : Hid (szF xs left = -1) := Lib.hid (by
          have h5 := HNg.out (xs.length - (k + 1)) (k + 1) (by rw [HT.out]; exact ht)
          rw [show k + 1 + (xs.length - (k + 1)) = xs.length by omega] at h5
          unfold szF; rw [if_pos h5])
        go_wp2_with fail
        refine HC.out.mono ?_
        rintro e w2 ⟨rfl, hb2⟩
        go_wp2_with fail
        go_ret
        exact ⟨ret_int (by rw [HR.out, HF.out]), hb.trans (hb2.mono hb.size)⟩
      · go_wp2_with fail
        refine HC.out.mono ?_
        rintro e w2 ⟨rfl, hb2⟩
        go_wp2_with fail
        go_roundw
        case rel => exact ⟨k + 1, by omega, by go_num, by rw [HT.out], by rw [HT.out]; omega, hb.trans (hb2.mono hb.size)⟩
        case measure => simp [intOf]; omega
    · obtain rfl : k = xs.length := by omega
      have HF : Hid (szF xs left = stF xs left xs.length) := Lib.hid (by unfold szF; rw [if_neg (by omega)])
      generalize stF xs left xs.length = t at *
      go_wp2
      go_ret
      exact ⟨ret_int (by rw [HR.out, HF.out]), hb⟩
theorem eqFan_yes (s : ByteArray) (a : Int) (A A' : Option Addr) (c c' : Nat) (cv : List (List Int)) (B B' : Nat) (w : World) (hn : cv.length ≤ 1099511627776) (hl : ∀ xs ∈ cv, xs.length ≤ 1048576) (hI : Nest B w A cv) (hI' : Nest B' w A' cv) (hB : B ≤ w.heap.size) (hB' : B' ≤ w.heap.size) :
    Calls Tryz.prog 40 #[.agg #[.string s, .int .i64 a, .slice A cv.length c], .agg #[.string s, .int .i64 a, .slice A' cv.length c']] w fun e w' => e = .returned (.bool true) ∧ Below w.heap.size w w' := by
  have HE := Lib.hid (fun W (hb : Below w.heap.size w W) => eqInt64SS_yes A A' c c' cv w.heap.size w.heap.size W hn hl ((hI.more hB).below hb) ((hI'.more hB').below hb) hb.size hb.size)
  have hb0 : Below w.heap.size w ((w.alloc (.cells #[.string s, .int .i64 a, .slice A cv.length c] 74)).alloc (.cells #[.string s, .int .i64 a, .slice A' cv.length c'] 74)) := by go_grown
  clear hI hI' hl
  go_enter Tryz.func40, Tryz.ntmps40
  go_wp2_with fail
  refine (HE.out _ hb0).mono ?_
  rintro e w2 ⟨rfl, hb2⟩
  go_wp2_with fail
  go_ret
  exact ⟨rfl, hb0.trans (hb2.mono hb0.size)⟩
set_option maxRecDepth 100000 in
set_option maxHeartbeats 800000 in
theorem eqFanS_yes (A A' : Option Addr) (c c' : Nat) (xs : List Fa) (B B' : Nat) (w : World) (hn : xs.length ≤ 1099511627776) (hl : FansLen xs) (hI : Fns B w A xs) (hI' : Fns B' w A' xs) (hB : B ≤ w.heap.size) (hB' : B' ≤ w.heap.size) :
    Calls Tryz.prog 16 #[.slice A xs.length c, .slice A' xs.length c'] w fun e w' => e = .returned (.bool true) ∧ Below w.heap.size w w' := by
  have J := Lib.hid (hI.more hB)
  have J' := Lib.hid (hI'.more hB')
  have HL := Lib.hid hl
  clear hI hI' hl
  go_enter Tryz.func16, Tryz.ntmps16
  go_wp2
  go_loopw [5] (fun i wr => ∃ k : Nat, k ≤ xs.length ∧ i = .int .i64 k ∧ Below w.heap.size w wr) (fun i _ => xs.length - (intOf i).toNat)
  case atStart => exact ⟨0, Nat.zero_le _, rfl, Below.refl _ _⟩
  case round =>
    obtain ⟨k, hk, rfl, hb⟩ := hrel
    by_cases hlt : k < xs.length
    · obtain ⟨⟨s, a, cv⟩, hx⟩ : ∃ x, xs.getD k nFa = x := ⟨_, rfl⟩
      obtain ⟨b, o, A1, c1', rfl, hab, c0, c1, c2, I1⟩ := (J.out.below hb).at_ hlt hx
      obtain ⟨b', o', A2, c2', rfl, hab', d0, d1, d2, I2⟩ := (J'.out.below hb).at_ hlt hx
      have hll : cv.length ≤ 1048576 ∧ ∀ l ∈ cv, l.length ≤ 1048576 := by
        have := HL.out _ (List.getElem_mem hlt)
        rw [← getD_fa hlt, hx] at this
        exact this
      have HE := Lib.hid (fun L : Later wr => eqFan_yes s a A1 A2 c1' c2' cv wr.heap.size wr.heap.size L.world (by omega) hll.2 ((I1.more hb.size).below L.below) ((I2.more hb.size).below L.below) L.below.size L.below.size)
      have j0 : (0 : Int) ≤ (k : Int) := by omega
      have j1 : (k : Int) < xs.length := by omega
      have e0 := fun L : Later wr => L.cell c0
      have e1 := fun L : Later wr => L.cell c1
      have e2 := fun L : Later wr => L.cell c2
      have g0 := fun L : Later wr => L.cell d0
      have g1 := fun L : Later wr => L.cell d1
      have g2 := fun L : Later wr => L.cell d2
      clear c0 c1 c2 d0 d1 d2 hx I1 I2 hll
      go_wp2
      refine wp_region_later (by kernel_rfl) (by kernel_rfl) ?_
      repeat (go_big_quiet_step ((go_at_call 40; first | (with_reducible exact later_b (HE.out _)) | (with_reducible exact later_d (HE.out _)) | (with_reducible exact later_s (HE.out _)))))
      refine wpQuiet_nil ?_
      intro _ hw'
      obtain ⟨LL, hw''⟩ := hw'
      subst hw''
      clear e0 e1 e2 g0 g1 g2
      have hb2 := hb.trans (LL.below.mono hb.size)
      go_wp2
      go_roundw
      case rel => exact ⟨k + 1, by omega, by go_num, hb2⟩
      case measure => simp [intOf]; omega
    · go_wp2
      go_ret
      exact ⟨rfl, hb⟩
end Go.Proofs.YtejkoicgbgoiaaaGreat

/- Lists of a struct of a string and 3 numbers (Door): what one is in memory; the laws' own functions on them: copies, comparisons, sizes, marks; how an argument of that shape opens. Conditions: the lengths that each theorem names. Printed by gen_rec.py. -/
namespace Go.Proofs.YtejkoicgbgoiaaaGreat
open Go.RowKit
open Pl
structure Do where
  id : ByteArray
  i0 : Int
  i1 : Int
  i2 : Int
def encDo (a : Do) : List Value := [.string a.id, .int .i64 a.i0, .int .i64 a.i1, .int .i64 a.i2]
theorem encDo_len (a : Do) : (encDo a).length = 4 := rfl
def nDo : Do := ⟨ByteArray.empty, 0, 0, 0⟩
theorem Recs.cellsDo {B : Nat} {w : World} {A : Option Addr} {xs : List Do} (h : Recs encDo 4 B w A xs) {j : Nat} (hj : j < xs.length) {s : ByteArray} {x0 x1 x2 : Int} (e : xs.getD j nDo = ⟨s, x0, x1, x2⟩) : ∃ b o, A = some ⟨b, o, none⟩ ∧ b < B ∧ w.cell? ⟨b, o + j * 4, none⟩ = some (.string s) ∧ w.cell? ⟨b, o + j * 4 + 1, none⟩ = some (.int .i64 x0) ∧ w.cell? ⟨b, o + j * 4 + 2, none⟩ = some (.int .i64 x1) ∧ w.cell? ⟨b, o + j * 4 + 3, none⟩ = some (.int .i64 x2) := by
  obtain ⟨b, o, ea, hb, hc⟩ := h.at_ hj
  have e' : xs[j] = ⟨s, x0, x1, x2⟩ := by rw [← e]; simp [List.getD, hj]
  rw [e'] at hc
  exact ⟨b, o, ea, hb, hc 0 _ rfl, hc 1 _ rfl, hc 2 _ rfl, hc 3 _ rfl⟩
theorem flatDo_set (a : Do) : ∀ (zs : List Do) (j : Nat), j < zs.length → (((((zs.flatMap encDo).set (j * 4) (.string a.id)).set (j * 4 + 1) (.int .i64 a.i0)).set (j * 4 + 2) (.int .i64 a.i1)).set (j * 4 + 3) (.int .i64 a.i2)) = (zs.set j a).flatMap encDo
  | z :: zs, 0, _ => by simp [encDo]
  | z :: zs, j + 1, h => by
    have ih := flatDo_set a zs j (by simpa using h)
    rw [show (j + 1) * 4 = j * 4 + 4 by omega]
    simp only [List.flatMap_cons, List.set_cons_succ, encDo, List.cons_append, List.nil_append]
    have e := congrArg (fun l => Value.string z.id :: Value.int .i64 z.i0 :: Value.int .i64 z.i1 :: Value.int .i64 z.i2 :: l) ih
    exact e
theorem madeDo (n : Nat) : (madeCells #[.string ByteArray.empty, .int .i64 0, .int .i64 0, .int .i64 0] (n * 4)).toList = (List.replicate n nDo).flatMap encDo := by
  unfold madeCells
  rw [Array.toList_map, Array.toList_range]
  induction n with
  | zero => rfl
  | succ n ih =>
    rw [show (n + 1) * 4 = n * 4 + 1 + 1 + 1 + 1 by omega, List.range_succ, List.range_succ, List.range_succ, List.range_succ, List.replicate_succ', List.flatMap_append]
    simp only [List.map_append, List.append_assoc]
    rw [ih]
    congr 1
    simp [encDo, nDo, Nat.add_mod]
theorem flatDo_cell {zs : List Do} {k j : Nat} (hk : k < zs.length) (hj : j < 4) : ∃ y, (zs.flatMap encDo)[k * 4 + j]? = some y := by
  rw [flat_get encDo_len zs k j hk hj]
  exact ⟨_, List.getElem?_eq_getElem (by rw [encDo_len]; exact hj)⟩
theorem toDoor_any (s : ByteArray) (x0 x1 x2 : Int) (w : World) :
    Calls Tryz.prog 82 #[.agg #[.string s, .int .i64 x0, .int .i64 x1, .int .i64 x2]] w fun e w' => e = .returned (.agg #[.string s, .int .i64 x0, .int .i64 x1, .int .i64 x2]) ∧ Below w.heap.size w w' := by
  go_enter Tryz.func82, Tryz.ntmps82
  go_wp2
  go_returns
  exact ⟨rfl, by go_grown⟩
theorem infoDo : (Tryz.prog.info? 119).map (fun i => (i.zero, i.size, i.bytes)) = some (some (.agg #[.string ByteArray.empty, .int .i64 0, .int .i64 0, .int .i64 0]), 4, 40) := by kernel_rfl
set_option maxRecDepth 100000 in
set_option maxHeartbeats 800000 in
theorem toDoorS_any (A : Option Addr) (c : Nat) (xs : List Do) (B : Nat) (w : World) (hn : xs.length ≤ 1048576) (hI : Recs encDo 4 B w A xs) (hB : B ≤ w.heap.size) :
    Calls Tryz.prog 53 #[.slice A xs.length c] w fun e w' => e = .returned (.slice (some ⟨w.heap.size, 0, none⟩) xs.length xs.length) ∧ OwnR 119 encDo 4 w.heap.size w' (.slice (some ⟨w.heap.size, 0, none⟩) xs.length xs.length) xs ∧ Below w.heap.size w w' := by
  obtain ⟨i0, hi, hz0, hz1, hz2⟩ := info_parts infoDo
  have hbb : i0.bytes * xs.length ≤ 281474976710656 := by rw [hz2]; omega
  have hmx : xs.length ≤ maxLen := le_max (by omega)
  have HD := Lib.hid (fun (s : ByteArray) (x0 x1 x2 : Int) W => toDoor_any s x0 x1 x2 W)
  go_enter Tryz.func53, Tryz.ntmps53
  go_wp2_with (at_make; refine wpList_make_full _ rfl (.tmp 6) (.tmp 6) 55 rfl w.heap.size 119 i0 (.agg #[.string ByteArray.empty, .int .i64 0, .int .i64 0, .int .i64 0]) 4 Tryz.underlying55 hi hz0 hz1 .i64 .i64 (xs.length : Int) (xs.length : Int) xs.length rfl rfl rfl rfl hbb hmx (Nat.le_refl _) ?_; intro w1 hown hgr)
  have hbe : Below w.heap.size w w1 := (Below.refl _ _).grown hgr (Nat.le_refl _) (fun k hk => by cases hk)
  have HO : ∃ zs : List Do, zs.length = xs.length ∧ zs.take 0 = xs.take 0 ∧ w1.ownsRow w.heap.size 119 4 (.slice (some ⟨w.heap.size, 0, none⟩) xs.length xs.length) xs.length (zs.flatMap encDo) := by
    refine ⟨List.replicate xs.length nDo, by simp, by simp, ?_⟩
    rw [← madeDo]
    exact hown
  clear hown hgr hbb hmx hi hz0 hz1 hz2
  have HH := Lib.hid HO
  clear HO
  go_wp2
  go_loopw [4] (fun i wr => ∃ k : Nat, k ≤ xs.length ∧ i = .int .i64 k ∧ Below w.heap.size w wr ∧ w.heap.size < wr.heap.size ∧ ∃ zs : List Do, zs.length = xs.length ∧ zs.take k = xs.take k ∧ wr.ownsRow w.heap.size 119 4 (.slice (some ⟨w.heap.size, 0, none⟩) xs.length xs.length) xs.length (zs.flatMap encDo)) (fun i _ => xs.length - (intOf i).toNat)
  case atStart =>
    obtain ⟨zs, h1, h2, h3⟩ := HH.out
    exact ⟨0, Nat.zero_le _, rfl, hbe, (World.ownsRow.lt h3 _ rfl).2, zs, h1, h2, h3⟩
  case round =>
    obtain ⟨k, hk, rfl, hb, hlt2, zs, hz, ht, ho⟩ := hrel
    by_cases hlt : k < xs.length
    · obtain ⟨⟨ya, y0, y1, y2⟩, hx⟩ : ∃ x, xs.getD k nDo = x := ⟨_, rfl⟩
      obtain ⟨b, o, rfl, hab, c0, c1, c2, c3⟩ := ((hI.more hB).below hb).cellsDo hlt hx
      have HO := Lib.hid ho
      have HZ := Lib.hid hz
      have HT := Lib.hid ht
      have HX : Hid (xs[k] = ⟨ya, y0, y1, y2⟩) := Lib.hid (by rw [← hx]; simp [List.getD, hlt])
      clear ho hz ht hx
      have j0 : (0 : Int) ≤ (k : Int) := by omega
      have j1 : (k : Int) < xs.length := by omega
      go_wp2_with fail
      refine (HD.out _ _ _ _ _).mono ?_
      rintro e w2 ⟨rfl, hb2⟩
      have hO2 := (show OwnR 119 encDo 4 w.heap.size wr (.slice (some ⟨w.heap.size, 0, none⟩) xs.length xs.length) zs by unfold OwnR; rw [HZ.out]; exact HO.out).later hb2
      unfold OwnR at hO2
      rw [HZ.out] at hO2
      have hkz : k < zs.length := by rw [HZ.out]; exact hlt
      obtain ⟨q0, e0⟩ := flatDo_cell (j := 0) hkz (by omega)
      obtain ⟨q1, e1⟩ := flatDo_cell (j := 1) hkz (by omega)
      obtain ⟨q2, e2⟩ := flatDo_cell (j := 2) hkz (by omega)
      obtain ⟨q3, e3⟩ := flatDo_cell (j := 3) hkz (by omega)
      have d0 := (World.ownsRow.cellAt hO2 (k * 4) (by omega)).trans e0
      have d1 := (World.ownsRow.cellAt hO2 (k * 4 + 1) (by omega)).trans e1
      have d2 := (World.ownsRow.cellAt hO2 (k * 4 + 2) (by omega)).trans e2
      have d3 := (World.ownsRow.cellAt hO2 (k * 4 + 3) (by omega)).trans e3
      have f0 := World.ownsRow.frozenAt hO2 (k * 4)
      have f1 := World.ownsRow.frozenAt hO2 (k * 4 + 1)
      have f2 := World.ownsRow.frozenAt hO2 (k * 4 + 2)
      have f3 := World.ownsRow.frozenAt hO2 (k * 4 + 3)
      have HO2 := Lib.hid hO2
      have hbb := hb.trans (hb2.mono hb.size)
      have hz2 : w.heap.size < w2.heap.size := by have := hb2.size; omega
      clear e0 e1 e2 e3 hO2 hkz c0 c1 c2 c3
      go_wp2_with fail
      go_roundw
      case rel =>
        obtain ⟨r0, _⟩ := World.ownsRow.stored HO2.out (k * 4) (.string ya)
        obtain ⟨r1, _⟩ := World.ownsRow.stored r0 (k * 4 + 1) (.int .i64 y0)
        obtain ⟨r2, _⟩ := World.ownsRow.stored r1 (k * 4 + 2) (.int .i64 y1)
        obtain ⟨r3, _⟩ := World.ownsRow.stored r2 (k * 4 + 3) (.int .i64 y2)
        rw [flatDo_set ⟨ya, y0, y1, y2⟩ zs k (by rw [HZ.out]; exact hlt)] at r3
        refine ⟨k + 1, by omega, by go_num, ((((hbb).setCell (by simp) _).setCell (by simp) _).setCell (by simp) _).setCell (by simp) _, by simpa using hz2, zs.set k ⟨ya, y0, y1, y2⟩, by rw [List.length_set]; exact HZ.out, ?_, r3⟩
        rw [← HX.out]
        exact take_set_succ' HZ.out hlt HT.out
      case measure => simp [intOf]; omega
    · obtain rfl : k = xs.length := by omega
      have HE := Lib.hid (take_all_eq' hz ht)
      have HO := Lib.hid ho
      clear ho hz ht
      go_wp2
      go_ret
      refine ⟨rfl, ?_, hb⟩
      have h := HO.out
      rw [HE.out] at h
      exact h
theorem szDoor_yes (s : ByteArray) (x0 x1 x2 : Int) (left : Int) (w : World) (h0 : left ≤ 1048576) (h : s.size ≤ left) :
    Calls Tryz.prog 74 #[.agg #[.string s, .int .i64 x0, .int .i64 x1, .int .i64 x2], .int .i64 left] w fun e w' => e = .returned (.int .i64 (left - s.size)) ∧ Below w.heap.size w w' := by
  go_enter Tryz.func74, Tryz.ntmps74
  go_wp2
  go_ret
  exact ⟨rfl, by go_grown⟩
theorem szDoor_no (s : ByteArray) (x0 x1 x2 : Int) (left : Int) (w : World) (h0 : 0 ≤ left) (h1 : left ≤ 1048576) (hs : s.size ≤ maxLen) (h : left < s.size) :
    Calls Tryz.prog 74 #[.agg #[.string s, .int .i64 x0, .int .i64 x1, .int .i64 x2], .int .i64 left] w fun e w' => e = .returned (.int .i64 (-1)) ∧ Below w.heap.size w w' := by
  unfold maxLen at hs
  go_enter Tryz.func74, Tryz.ntmps74
  go_wp2
  go_ret
  exact ⟨rfl, by go_grown⟩
def idLenDo (xs : List Do) : Nat → Int | 0 => 0 | k + 1 => idLenDo xs k + (xs.getD k nDo).id.size
theorem idLenDo_nonneg (xs : List Do) : ∀ k, 0 ≤ idLenDo xs k
  | 0 => by simp [idLenDo]
  | k + 1 => by have := idLenDo_nonneg xs k; unfold idLenDo; omega
theorem idLenDo_mono (xs : List Do) : ∀ (d k : Nat), idLenDo xs k ≤ idLenDo xs (k + d)
  | 0, k => Int.le_refl _
  | d + 1, k => by have := idLenDo_mono xs d k; have e : idLenDo xs (k + (d + 1)) = idLenDo xs (k + d) + (xs.getD (k + d) nDo).id.size := rfl; omega
def szDo (xs : List Do) (left : Int) : Int := if (xs.length : Int) + idLenDo xs xs.length ≤ left then left - xs.length - idLenDo xs xs.length else -1
/-- All names are strings of a length that can be, all numbers fit. -/
def FitsDo (xs : List Do) : Prop := ∀ x ∈ xs, x.id.size ≤ maxLen ∧ (-9223372036854775808 ≤ x.i0 ∧ x.i0 ≤ 9223372036854775807) ∧ (-9223372036854775808 ≤ x.i1 ∧ x.i1 ≤ 9223372036854775807) ∧ (-9223372036854775808 ≤ x.i2 ∧ x.i2 ≤ 9223372036854775807)
theorem FitsDo.id {xs : List Do} (h : FitsDo xs) (k : Nat) : (xs.getD k nDo).id.size ≤ maxLen := by
  by_cases hk : k < xs.length
  · rw [show xs.getD k nDo = xs[k] by simp [List.getD, hk]]; exact (h _ (List.getElem_mem hk)).1
  · rw [show xs.getD k nDo = nDo by simp [List.getD, List.getElem?_eq_none (by omega : xs.length ≤ k)]]; exact Nat.zero_le _
theorem szDo_or (xs : List Do) (left : Int) (h : left ≤ 1048576) : szDo xs left = -1 ∨ (0 ≤ szDo xs left ∧ szDo xs left ≤ left ∧ (xs.length : Int) ≤ 1048576) := by
  have := idLenDo_nonneg xs xs.length
  unfold szDo
  split
  · exact .inr (by omega)
  · exact .inl rfl
set_option maxRecDepth 100000 in
theorem szDoorS_any (A : Option Addr) (c : Nat) (xs : List Do) (left : Int) (B : Nat) (w : World) (h1 : 0 ≤ left) (h0 : left ≤ 1048576) (hn : xs.length ≤ maxLen) (hF : FitsDo xs) (hI : Recs encDo 4 B w A xs) (hB : B ≤ w.heap.size) :
    Calls Tryz.prog 48 #[.slice A xs.length c, .int .i64 left] w fun e w' => e = .returned (.int .i64 (szDo xs left)) ∧ Below w.heap.size w w' := by
  obtain ⟨R, hR⟩ : ∃ R, R = szDo xs left := ⟨_, rfl⟩
  rw [← hR]
  have HR := Lib.hid hR
  clear hR
  have J := Lib.hid (hI.more hB)
  clear hI
  have HL := Lib.hid hF.id
  clear hF
  have HN := Lib.hid (idLenDo_nonneg xs)
  have hz := HN.out xs.length
  unfold maxLen at hn
  by_cases h2 : left < xs.length
  · have HF : Hid (szDo xs left = -1) := Lib.hid (by unfold szDo; rw [if_neg (by omega)])
    clear hz
    go_enter Tryz.func48, Tryz.ntmps48
    go_wp2
    go_ret
    exact ⟨ret_int (by rw [HR.out, HF.out]), Below.refl _ _⟩
  obtain ⟨m, m1, m2, m3⟩ := first_stop (fun k => decide ((xs.length : Int) + idLenDo xs (k + 1) ≤ left)) xs.length
  have M2 := Lib.hid m2
  have M3 := Lib.hid m3
  clear m2 m3 hz
  go_enter Tryz.func48, Tryz.ntmps48
  go_wp2
  go_loopw [1, 5] (fun s i wr => ∃ k : Nat, k ≤ m ∧ i = .int .i64 k ∧ s = .int .i64 (left - xs.length - idLenDo xs k) ∧ (xs.length : Int) + idLenDo xs k ≤ left ∧ Below w.heap.size w wr) (fun _ i _ => xs.length - (intOf i).toNat)
  case atStart => exact ⟨0, Nat.zero_le _, rfl, by simp [idLenDo], by simp [idLenDo]; omega, Below.refl _ _⟩
  case round =>
    obtain ⟨k, hk, rfl, rfl, hle, hb⟩ := hrel
    have hz := HN.out k
    by_cases hlt : k < xs.length
    · obtain ⟨⟨ya, y0, y1, y2⟩, hx⟩ : ∃ x, xs.getD k nDo = x := ⟨_, rfl⟩
      obtain ⟨b, o, rfl, hab, c0, c1, c2, c3⟩ := (J.out.below hb).cellsDo hlt hx
      have hs : idLenDo xs (k + 1) = idLenDo xs k + ya.size := by rw [idLenDo, hx]
      have hlen : ya.size ≤ maxLen := by have := HL.out k; rw [hx] at this; exact this
      have j0 : (0 : Int) ≤ (k : Int) := by omega
      have j1 : (k : Int) < xs.length := by omega
      have HS := Lib.hid hs
      by_cases hkm : k < m
      · have hp := of_decide_eq_true (M2.out k hkm)
        rw [hs] at hp
        generalize idLenDo xs k = tl at *
        have HZ := Lib.hid (fun W => szDoor_yes ya y0 y1 y2 (left - xs.length - tl) W (by omega) (by omega))
        clear hs hlen hx
        go_wp2_with (go_at_call 74; refine (HZ.out _).mono ?_; rintro e w' ⟨rfl, hb2⟩)
        go_roundw
        case rel => exact ⟨k + 1, by omega, by go_num, by rw [HS.out]; go_num, by rw [HS.out]; omega, hb.trans (hb2.mono hb.size)⟩
        case measure => simp [intOf]; omega
      · obtain rfl : m = k := by omega
        have hp := of_decide_eq_false (M3.out hlt)
        rw [hs] at hp
        have HF : Hid (szDo xs left = -1) := Lib.hid (by
          unfold szDo
          have h5 := idLenDo_mono xs (xs.length - (m + 1)) (m + 1)
          rw [show m + 1 + (xs.length - (m + 1)) = xs.length by omega] at h5
          rw [if_neg (by omega)])
        generalize idLenDo xs m = tl at *
        have HZ := Lib.hid (fun W => szDoor_no ya y0 y1 y2 (left - xs.length - tl) W (by omega) (by omega) hlen (by omega))
        clear hs hlen hx
        go_wp2_with (go_at_call 74; refine (HZ.out _).mono ?_; rintro e w' ⟨rfl, hb2⟩)
        go_ret
        exact ⟨ret_int (by rw [HR.out, HF.out]), hb.trans (hb2.mono hb.size)⟩
    · obtain rfl : k = xs.length := by omega
      have HF : Hid (szDo xs left = left - xs.length - idLenDo xs xs.length) := Lib.hid (by unfold szDo; rw [if_pos hle])
      generalize idLenDo xs xs.length = tl at *
      go_wp2
      go_ret
      exact ⟨ret_int (by rw [HR.out, HF.out]), hb⟩
theorem eqDoor_yes (s : ByteArray) (x0 x1 x2 : Int) (w : World) :
    Calls Tryz.prog 87 #[.agg #[.string s, .int .i64 x0, .int .i64 x1, .int .i64 x2], .agg #[.string s, .int .i64 x0, .int .i64 x1, .int .i64 x2]] w fun e w' => e = .returned (.bool true) ∧ Below w.heap.size w w' := by
  go_enter Tryz.func87, Tryz.ntmps87
  go_wp2
  go_ret
  exact ⟨rfl, by go_grown⟩
set_option maxRecDepth 100000 in
set_option maxHeartbeats 800000 in
theorem eqDoorS_yes (A A' : Option Addr) (c c' : Nat) (xs : List Do) (B B' : Nat) (w : World) (hn : xs.length ≤ 1099511627776) (hI : Recs encDo 4 B w A xs) (hI' : Recs encDo 4 B' w A' xs) (hB : B ≤ w.heap.size) (hB' : B' ≤ w.heap.size) :
    Calls Tryz.prog 57 #[.slice A xs.length c, .slice A' xs.length c'] w fun e w' => e = .returned (.bool true) ∧ Below w.heap.size w w' := by
  have J := Lib.hid (hI.more hB)
  have J' := Lib.hid (hI'.more hB')
  clear hI hI'
  go_enter Tryz.func57, Tryz.ntmps57
  go_wp2
  go_loopw [5] (fun i wr => ∃ k : Nat, k ≤ xs.length ∧ i = .int .i64 k ∧ Below w.heap.size w wr) (fun i _ => xs.length - (intOf i).toNat)
  case atStart => exact ⟨0, Nat.zero_le _, rfl, Below.refl _ _⟩
  case round =>
    obtain ⟨k, hk, rfl, hb⟩ := hrel
    by_cases hlt : k < xs.length
    · obtain ⟨⟨ya, y0, y1, y2⟩, hx⟩ : ∃ x, xs.getD k nDo = x := ⟨_, rfl⟩
      obtain ⟨b, o, rfl, hab, c0, c1, c2, c3⟩ := (J.out.below hb).cellsDo hlt hx
      obtain ⟨b', o', rfl, hab', d0, d1, d2, d3⟩ := (J'.out.below hb).cellsDo hlt hx
      have HE := Lib.hid (eqDoor_yes ya y0 y1 y2)
      have j0 : (0 : Int) ≤ (k : Int) := by omega
      have j1 : (k : Int) < xs.length := by omega
      have e0 := fun L : Later wr => L.cell c0
      have e1 := fun L : Later wr => L.cell c1
      have e2 := fun L : Later wr => L.cell c2
      have e3 := fun L : Later wr => L.cell c3
      have g0 := fun L : Later wr => L.cell d0
      have g1 := fun L : Later wr => L.cell d1
      have g2 := fun L : Later wr => L.cell d2
      have g3 := fun L : Later wr => L.cell d3
      clear c0 c1 c2 c3 d0 d1 d2 d3 hx
      go_wp2
      refine wp_region_later (by kernel_rfl) (by kernel_rfl) ?_
      repeat (go_big_quiet_step ((go_at_call 87; first | (with_reducible exact later_b (HE.out _)) | (with_reducible exact later_d (HE.out _)) | (with_reducible exact later_s (HE.out _)))))
      refine wpQuiet_nil ?_
      intro _ hw'
      obtain ⟨LL, hw''⟩ := hw'
      subst hw''
      clear e0 e1 e2 e3 g0 g1 g2 g3
      have hb2 := hb.trans (LL.below.mono hb.size)
      go_wp2
      go_roundw
      case rel => exact ⟨k + 1, by omega, by go_num, hb2⟩
      case measure => simp [intOf]; omega
    · go_wp2
      go_ret
      exact ⟨rfl, hb⟩
set_option maxRecDepth 100000 in
set_option maxHeartbeats 800000 in
theorem markDoorS_row (g c : Nat) (xs : List Do) (k : Int) (base : Nat) (w : World) (hn : xs.length ≤ 1048576) (h1 : 1 ≤ k) (h2 : k ≤ 1099500000000) (hI : OwnR 119 encDo 4 base w (.slice (some ⟨g, 0, none⟩) xs.length c) xs) :
    Calls Tryz.prog 59 #[.slice (some ⟨g, 0, none⟩) xs.length c, .int .i64 k] w fun e w' => e = .returned (.int .i64 (k + 4 * xs.length)) ∧ (∃ ys : List Do, ys.length = xs.length ∧ OwnR 119 encDo 4 base w' (.slice (some ⟨g, 0, none⟩) xs.length c) ys) ∧ w.grownBy w' (some g) := by
  have HI := Lib.hid hI
  clear hI
  obtain ⟨n, hnn⟩ : ∃ n, n = xs.length := ⟨_, rfl⟩
  rw [← hnn]
  rw [← hnn] at HI hn
  have HL := Lib.hid hnn
  clear hnn
  go_enter Tryz.func59, Tryz.ntmps59
  go_wp2
  go_loopw [1, 5] (fun q i wr => ∃ j : Nat, j ≤ n ∧ i = .int .i64 j ∧ q = .int .i64 (k + 4 * j) ∧ w.grownBy wr (some g) ∧ ∃ zs : List Do, zs.length = n ∧ wr.ownsRow base 119 4 (.slice (some ⟨g, 0, none⟩) n c) n (zs.flatMap encDo)) (fun _ i _ => n - (intOf i).toNat)
  case atStart =>
    refine ⟨0, Nat.zero_le _, rfl, by go_num, World.grownBy.refl _ _, xs, HL.out.symm, ?_⟩
    have h := HI.out
    unfold OwnR at h
    rw [← HL.out] at h
    exact h
  case round =>
    obtain ⟨j, hj, rfl, rfl, hg, zs, hz, ho⟩ := hrel
    by_cases hlt : j < n
    · have HO := Lib.hid ho
      have HZ := Lib.hid hz
      clear ho hz
      have HD := Lib.hid (markText_any (k + 4 * j) wr (by omega) (by omega))
      go_wp2_with fail
      refine HD.out.mono ?_
      rintro e w2 ⟨st, rfl, _, hb2⟩
      have hO2 := (show OwnR 119 encDo 4 base wr (.slice (some ⟨g, 0, none⟩) n c) zs by unfold OwnR; rw [HZ.out]; exact HO.out).later hb2
      unfold OwnR at hO2
      rw [HZ.out] at hO2
      have hkz : j < zs.length := by rw [HZ.out]; exact hlt
      obtain ⟨q0, e0⟩ := flatDo_cell (j := 0) hkz (by omega)
      obtain ⟨q1, e1⟩ := flatDo_cell (j := 1) hkz (by omega)
      obtain ⟨q2, e2⟩ := flatDo_cell (j := 2) hkz (by omega)
      obtain ⟨q3, e3⟩ := flatDo_cell (j := 3) hkz (by omega)
      have d0 := (World.ownsRow.cellAt hO2 (j * 4) (by omega)).trans e0
      have d1 := (World.ownsRow.cellAt hO2 (j * 4 + 1) (by omega)).trans e1
      have d2 := (World.ownsRow.cellAt hO2 (j * 4 + 2) (by omega)).trans e2
      have d3 := (World.ownsRow.cellAt hO2 (j * 4 + 3) (by omega)).trans e3
      have f0 := World.ownsRow.frozenAt hO2 (j * 4)
      have f1 := World.ownsRow.frozenAt hO2 (j * 4 + 1)
      have f2 := World.ownsRow.frozenAt hO2 (j * 4 + 2)
      have f3 := World.ownsRow.frozenAt hO2 (j * 4 + 3)
      have HO2 := Lib.hid hO2
      have hg2 := hg.trans (Below.grownBy hb2 (some g))
      have j0 : (0 : Int) ≤ (j : Int) := by omega
      have j1 : (j : Int) < n := by omega
      clear e0 e1 e2 e3 hO2
      go_wp2
      go_roundw
      case rel =>
        obtain ⟨r0, s0⟩ := World.ownsRow.stored HO2.out (j * 4) (.string st)
        obtain ⟨r1, s1⟩ := World.ownsRow.stored r0 (j * 4 + 1) (.int .i64 (k + 4 * j + 1))
        obtain ⟨r2, s2⟩ := World.ownsRow.stored r1 (j * 4 + 2) (.int .i64 (k + 4 * j + 1 + 1))
        obtain ⟨r3, s3⟩ := World.ownsRow.stored r2 (j * 4 + 3) (.int .i64 (k + 4 * j + 1 + 1 + 1))
        rw [flatDo_set ⟨st, k + 4 * j + 1, k + 4 * j + 1 + 1, k + 4 * j + 1 + 1 + 1⟩ zs j hkz] at r3
        exact ⟨j + 1, by omega, by go_num, by go_num, ((((hg2.trans s0).trans s1).trans s2).trans s3), _, by rw [List.length_set]; exact HZ.out, r3⟩
      case measure => simp [intOf]; omega
    · obtain rfl : j = n := by omega
      have HO := Lib.hid ho
      have HZ := Lib.hid hz
      clear ho hz
      go_wp2
      go_ret
      refine ⟨rfl, ⟨zs, HZ.out, ?_⟩, hg⟩
      unfold OwnR
      rw [HZ.out]
      exact HO.out
theorem markDoorS_nil (k : Int) (w : World) : Calls Tryz.prog 59 #[.slice none 0 0, .int .i64 k] w fun e w' => e = .returned (.int .i64 k) ∧ w = w' := by
  go_enter Tryz.func59, Tryz.ntmps59
  go_wp2
  go_rounds 1
  go_ret
  exact ⟨rfl, rfl⟩
theorem markDoorS_own (v : Value) (xs : List Do) (k : Int) (base : Nat) (w : World) (hn : xs.length ≤ 1048576) (h1 : 1 ≤ k) (h2 : k ≤ 1099500000000) (hI : OwnR 119 encDo 4 base w v xs) :
    Calls Tryz.prog 59 #[v, .int .i64 k] w fun e w' => e = .returned (.int .i64 (k + 4 * xs.length)) ∧ (∃ ys : List Do, ys.length = xs.length ∧ OwnR 119 encDo 4 base w' v ys) ∧ w.grownBy w' v.ownBlock := by
  rcases hI.form with ⟨rfl, rfl⟩ | ⟨g, c, rfl, _, _⟩
  · refine (markDoorS_nil k w).mono ?_
    rintro e w' ⟨rfl, rfl⟩
    exact ⟨by simp, ⟨[], rfl, OwnR.nil_ _ _⟩, World.grownBy.refl _ _⟩
  · exact markDoorS_row g c xs k base w hn h1 h2 hI
end Go.Proofs.YtejkoicgbgoiaaaGreat
