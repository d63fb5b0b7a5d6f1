/- The laws' own functions on lists of truth values: a copy, a comparison, marks; an argument of that kind. What a list of the call's own is in memory. Conditions: the lengths that each theorem names. -/
import Derived.Test.YtlgagnbnjfneaaaStru
import Derived.Deep.Grids
namespace Go.Proofs.Ytlgagnbnjfneaaa
open Go.RowKit Go.ChangeShapes Go.WideShapes Go.ChangeAt Go.Joins Go.Deep
open Pl
section
variable {H : Type} {enc : TypeId × Value → H} {P : Program} {W : World}
theorem open_bools_at {t e : TypeId} {r : Reach} {b0 : Nat} {v : Value} {d : DataW H} {ps : List MemPlace} (ht : P.underlying t = some (.slice e)) (he : P.underlying e = some .bool) (hc : P.cellsOf e = 1)
    (hval : Value.okWide P W r b0 t v) (h : DataW.Trod enc P W 0 (fun _ => true) true t v d ps) (hlt : ∀ p ∈ ps, p.block < W.heap.size) :
    ∃ (A : Option Addr) (c : Nat) (xs : List Bool), v = .slice A xs.length c ∧ Bools W.heap.size W A xs ∧ xs.length ≤ maxLen := by
  obtain ⟨a0, len, cap, rfl⟩ := okWide_slice ht hval
  obtain ⟨fuel, hf⟩ := h
  rcases open_bools ht he hc hf with ⟨hcs, _⟩ | ⟨a, len', cap', Z, hcs, _, hl, hm, hx, hcell⟩
  · simp only [Value.cells, List.cons.injEq, Value.slice.injEq, and_true] at hcs
    obtain ⟨rfl, rfl, rfl⟩ := hcs
    exact ⟨none, 0, [], rfl, (fun h => by simp at h), by simp⟩
  · simp only [Value.cells, List.cons.injEq, Value.slice.injEq, and_true] at hcs
    obtain ⟨rfl, rfl, rfl⟩ := hcs
    simp only [Prod.mk.injEq] at hx
    obtain ⟨_, rfl⟩ := hx
    refine ⟨some a, cap, (List.range len).map Z, by simp, ?_, by simp; omega⟩
    intro hpos
    have hpos' : 0 < len := by simpa using hpos
    have hb : a.block < W.heap.size := hlt _ (row_head (n := cap) (by omega))
    refine ⟨a, rfl, hb, fun k hk => ?_⟩
    have hk' : k < len := by simpa using hk
    rw [hcell k (by omega)]
    simp
end
theorem Bools.nil {B : Nat} {w : World} {A : Option Addr} : Bools B w A [] := fun h => by simp at h
theorem infoB : (Try.prog.info? 4).map (fun i => (i.zero, i.size, i.bytes)) = some (some (.bool false), 1, 1) := by kernel_rfl

/-- The values of truth values. -/
def bvals (xs : List Bool) : List Value := xs.map (Value.bool)
theorem bvals_length (xs : List Bool) : (bvals xs).length = xs.length := List.length_map _
theorem bvals_get {xs : List Bool} {j : Nat} (h : j < xs.length) : (bvals xs)[j]? = some (.bool xs[j]) := by unfold bvals; rw [List.getElem?_map, List.getElem?_eq_getElem h]; rfl
theorem bvals_append (xs ys : List Bool) : bvals (xs ++ ys) = bvals xs ++ bvals ys := List.map_append
theorem bvals_set (xs : List Bool) (j : Nat) (x : Bool) : (bvals xs).set j (.bool x) = bvals (xs.set j x) := by unfold bvals; rw [List.map_set]

/-- 'OwnB base w v xs': the slice value v owns the truth values xs, in a block from base on (nil, if none). -/
def OwnB (base : Nat) (w : World) (v : Value) (xs : List Bool) : Prop := w.ownsRow base 4 1 v xs.length (bvals xs)

theorem OwnB.nil_ (base : Nat) (w : World) : OwnB base w (.slice none 0 0) [] := World.ownsRow_nil _ _ _ _
/-- The form of such a value: an address that may be nil, and a capacity. -/
theorem OwnB.form {base : Nat} {w : World} {v : Value} {xs : List Bool} (h : OwnB base w v xs) :
    (v = .slice none 0 0 ∧ xs = []) ∨ ∃ g c, v = .slice (some ⟨g, 0, none⟩) xs.length c ∧ base ≤ g ∧ g < w.heap.size := by
  rcases h.2 with ⟨rfl, h0⟩ | ⟨g, cap, cur, hv, hb, hg, _⟩
  · exact .inl ⟨rfl, List.eq_nil_of_length_eq_zero h0⟩
  · exact .inr ⟨g, cap, hv, hb, (Array.getElem?_eq_some_iff.1 hg).1⟩
theorem OwnB.slice {base : Nat} {w : World} {v : Value} {xs : List Bool} (h : OwnB base w v xs) : ∃ A c, v = .slice A xs.length c ∧ Bools w.heap.size w A xs ∧ (∀ ad, A = some ad → ad = ⟨ad.block, 0, none⟩ ∧ base ≤ ad.block ∧ ad.block < w.heap.size) := by
  rcases h.form with ⟨rfl, rfl⟩ | ⟨g, c, rfl, hb, hlt⟩
  · exact ⟨none, 0, rfl, Bools.nil, fun ad h => by cases h⟩
  · refine ⟨some ⟨g, 0, none⟩, c, rfl, fun _ => ⟨_, rfl, hlt, fun k hk => ?_⟩, fun ad h => by cases h; exact ⟨rfl, hb, hlt⟩⟩
    exact World.ownsRow.cells h rfl k _ (bvals_get hk)
theorem OwnB.ints {base : Nat} {w : World} {A : Option Addr} {n c : Nat} {xs : List Bool} (h : OwnB base w (.slice A n c) xs) : Bools w.heap.size w A xs := by
  obtain ⟨A', c', he, hi, _⟩ := h.slice
  injection he with h1 h2 h3
  subst h1
  exact hi
theorem OwnB.below {base B : Nat} {w w' : World} {v : Value} {xs : List Bool} (h : OwnB base w v xs) (hb : Below B w w') (hB : ∀ g, v.ownBlock = some g → g < B) : OwnB base w' v xs := by
  refine ⟨h.1, ?_⟩
  rcases h.2 with hn | ⟨g, cap, cur, rfl, h1, h2, rest⟩
  · exact .inl hn
  · exact .inr ⟨g, cap, cur, rfl, h1, (hb.block g (hB g rfl)).trans h2, rest⟩
/-- .. over a call that leaves all that was there. -/
theorem OwnB.later {base : Nat} {w w' : World} {v : Value} {xs : List Bool} (h : OwnB base w v xs) (hb : Below w.heap.size w w') : OwnB base w' v xs :=
  h.below hb (fun g hg => (World.ownsRow.lt h g hg).2)
theorem OwnB.kept {base : Nat} {w w' : World} {v : Value} {xs : List Bool} {row : Option Nat} (h : OwnB base w v xs) (hg : w.grownBy w' row) (hne : v.ownBlock = none ∨ v.ownBlock ≠ row) : OwnB base w' v xs :=
  World.ownsRow.kept h hg hne
theorem OwnB.base {b b' : Nat} {w : World} {v : Value} {xs : List Bool} (h : OwnB b w v xs) (hb : ∀ g, v.ownBlock = some g → b' ≤ g) : OwnB b' w v xs := by
  refine ⟨h.1, ?_⟩
  rcases h.2 with hn | ⟨g, cap, cur, rfl, h1, rest⟩
  · exact .inl hn
  · exact .inr ⟨g, cap, cur, rfl, hb g rfl, rest⟩

theorem take_set_succB {zs xs : List Bool} {k : Nat} (hz : zs.length = xs.length) (hk : k < xs.length) (h : zs.take k = xs.take k) : (zs.set k xs[k]).take (k + 1) = xs.take (k + 1) := by
  apply List.ext_getElem?
  intro j
  rw [List.getElem?_take, List.getElem?_take]
  split
  · by_cases e : j = k
    · subst e; rw [List.getElem?_set_self (by omega), List.getElem?_eq_getElem hk]
    · rw [List.getElem?_set_ne (Ne.symm e)]
      have := congrArg (·[j]?) h
      simp only [List.getElem?_take] at this
      rw [if_pos (by omega), if_pos (by omega)] at this
      exact this
  · rfl
theorem take_all_eqB {zs xs : List Bool} (hz : zs.length = xs.length) (h : zs.take xs.length = xs.take xs.length) : zs = xs := by
  rw [List.take_of_length_le (by omega), List.take_of_length_le (by omega)] at h; exact h
/-- A copy of a list: a new row. -/
theorem toBoolS_any (A : Option Addr) (c : Nat) (xs : List Bool) (B : Nat) (w : World) (hn : xs.length ≤ 1048576) (hI : Bools B w A xs) (hB : B ≤ w.heap.size) :
    Calls Try.prog 23 #[.slice A xs.length c] w fun e w' => e = .returned (.slice (some ⟨w.heap.size, 0, none⟩) xs.length xs.length) ∧ OwnB w.heap.size w' (.slice (some ⟨w.heap.size, 0, none⟩) xs.length xs.length) xs ∧ Below w.heap.size w w' := by
  obtain ⟨i0, hi, hz0, hz1, hz2⟩ := info_parts infoB
  have hbb : i0.bytes * xs.length ≤ 281474976710656 := by rw [hz2]; omega
  have hmx : xs.length ≤ maxLen := le_max (by omega)
  go_enter Try.func23, Try.ntmps23
  go_wp2_with (at_make; refine wpList_make_full _ rfl (.tmp 6) (.tmp 6) 41 rfl w.heap.size 4 i0 (.bool false) 1 Try.underlying41 hi hz0 hz1 .i64 .i64 (xs.length : Int) (xs.length : Int) xs.length rfl rfl rfl rfl hbb hmx (Nat.le_refl _) ?_; intro w1 hown hgr)
  have hbe : Below w.heap.size w w1 := (Below.refl _ _).grown hgr (Nat.le_refl _) (fun k hk => by cases hk)
  have HO : ∃ zs : List Bool, zs.length = xs.length ∧ zs.take 0 = xs.take 0 ∧ w1.ownsRow w.heap.size 4 1 (.slice (some ⟨w.heap.size, 0, none⟩) xs.length xs.length) xs.length (bvals zs) := by
    refine ⟨List.replicate xs.length false, by simp, by simp, ?_⟩
    unfold bvals
    have e : (madeCells (Value.bool false).cells (xs.length * 1)).toList = (List.replicate xs.length false).map (Value.bool) := by
      rw [Nat.mul_one, List.map_replicate]
      exact toList_madeCells_one _ _
    rw [e] at hown
    exact hown
  clear hown hgr hbb hmx hi hz0 hz1 hz2
  have HH := Lib.hid HO
  clear HO
  go_wp2
  go_loopw [4] (fun i wr => ∃ k : Nat, k ≤ xs.length ∧ i = .int .i64 k ∧ Below w.heap.size w wr ∧ w.heap.size < wr.heap.size ∧ ∃ zs : List Bool, zs.length = xs.length ∧ zs.take k = xs.take k ∧ wr.ownsRow w.heap.size 4 1 (.slice (some ⟨w.heap.size, 0, none⟩) xs.length xs.length) xs.length (bvals zs)) (fun i _ => xs.length - (intOf i).toNat)
  case atStart =>
    obtain ⟨zs, h1, h2, h3⟩ := HH.out
    exact ⟨0, Nat.zero_le _, rfl, hbe, (World.ownsRow.lt h3 _ rfl).2, zs, h1, h2, h3⟩
  case round =>
    obtain ⟨k, hk, rfl, hb, hlt2, zs, hz, ht, ho⟩ := hrel
    by_cases hlt : k < xs.length
    · obtain ⟨ad, rfl, hab, hcell0⟩ := hI.at_ hlt
      have hcell : wr.cell? (ad.add k) = some (.bool xs[k]) := (hb.cell (by rw [block_add]; omega)).trans hcell0
      have hfz : wr.frozen? ⟨w.heap.size, k, none⟩ = false := World.ownsRow.frozenAt ho k
      obtain ⟨y, hold⟩ : ∃ y, wr.cell? ⟨w.heap.size, k, none⟩ = some (.bool y) := ⟨_, (World.ownsRow.cellAt ho k (by omega)).trans (bvals_get (by omega))⟩
      have HO := Lib.hid ho
      have HZ := Lib.hid hz
      have HT := Lib.hid ht
      clear ho hz ht hcell0
      obtain ⟨x, hx⟩ : ∃ x, x = xs[k] := ⟨_, rfl⟩
      rw [← hx] at hcell
      have HX := Lib.hid hx
      clear hx
      go_wp2
      go_roundw
      case rel =>
        obtain ⟨h1, h2⟩ := World.ownsRow.stored HO.out k (.bool x)
        rw [bvals_set] at h1
        refine ⟨k + 1, by omega, by go_num, hb.setCell (by simp) _, by simpa using hlt2, zs.set k x, by rw [List.length_set]; exact HZ.out, ?_, h1⟩
        rw [HX.out]
        exact take_set_succB HZ.out hlt HT.out
      case measure => simp [intOf]; omega
    · obtain rfl : k = xs.length := by omega
      have HE := Lib.hid (take_all_eqB hz ht)
      have HO := Lib.hid ho
      clear ho hz ht
      go_wp2
      go_ret
      refine ⟨rfl, ?_, hb⟩
      have h := HO.out
      rw [HE.out] at h
      exact h

/-! ### Comparison -/
theorem eqBoolS_yes (A A' : Option Addr) (c c' : Nat) (xs : List Bool) (B B' : Nat) (w : World) (hn : xs.length ≤ 1099511627776) (hI : Bools B w A xs) (hI' : Bools B' w A' xs) :
    Calls Try.prog 25 #[.slice A xs.length c, .slice A' xs.length c'] w fun e w' => e = .returned (.bool true) ∧ ∃ n, w.drewN n = w' := by
  go_enter Try.func25, Try.ntmps25
  go_wp2
  go_loopw [5] (fun i wr => ∃ k : Nat, k ≤ xs.length ∧ i = .int .i64 k ∧ ∃ n, w.drewN n = wr) (fun i _ => xs.length - (intOf i).toNat)
  case atStart => exact ⟨0, Nat.zero_le _, rfl, 0, rfl⟩
  case round =>
    obtain ⟨k, hk, rfl, n, rfl⟩ := hrel
    by_cases hlt : k < xs.length
    · obtain ⟨ad, rfl, _, hc1⟩ := hI.at_ hlt
      obtain ⟨ad', rfl, _, hc2⟩ := hI'.at_ hlt
      have hi1 : (k : Int) < xs.length := by omega
      have hi0 : (0 : Int) ≤ k := by omega
      generalize xs[k] = x at *
      go_wp2_with fail
      go_quiet (fail)
      go_wp2
      go_roundw
      case rel => exact ⟨k + 1, by omega, by go_num, _, rfl⟩
      case measure => simp [intOf]; omega
    · go_wp2
      go_ret
      exact ⟨rfl, _, rfl⟩

theorem markBoolS_own (A : Option Addr) (c n : Nat) (xs : List Bool) (k : Int) (base : Nat) (w : World) (hn : n ≤ 1099511627776) (h1 : 0 ≤ k) (h2 : k ≤ 1099511627776) (hl : xs.length = n) (ho : OwnB base w (.slice A n c) xs) :
    Calls Try.prog 26 #[.slice A n c, .int .i64 k] w fun e w' => e = .returned (.int .i64 (k + n)) ∧ True ∧ w.grownBy w' (Value.ownBlock (.slice A n c)) := by
  rcases ho.form with ⟨he, hx⟩ | ⟨g, c', he, _, _⟩
  · injection he with e1 e2 e3
    subst e1 e2 e3
    go_enter Try.func26, Try.ntmps26
    go_wp2
    go_rounds 1
    go_ret
    exact ⟨by simp, trivial, World.grownBy.refl _ _⟩
  · injection he with e1 e2 e3
    subst e1 e3
    have HW : Hid (w.ownsRow base 4 1 (.slice (some ⟨g, 0, none⟩) n c) n (bvals xs)) := Lib.hid (by have := ho; unfold OwnB at this; rw [hl] at this; exact this)
    have HL := Lib.hid hl
    clear hl ho e2
    show Calls Try.prog 26 _ w fun e w' => _ ∧ _ ∧ w.grownBy w' (some g)
    go_enter Try.func26, Try.ntmps26
    go_wp2
    go_loopw [1, 5] (fun q i wr => ∃ j : Nat, j ≤ n ∧ i = .int .i64 j ∧ q = .int .i64 (k + j) ∧ w.grownBy wr (some g) ∧ ∃ zs : List Bool, zs.length = n ∧ wr.ownsRow base 4 1 (.slice (some ⟨g, 0, none⟩) n c) n (bvals zs)) (fun _ i _ => n - (intOf i).toNat)
    case atStart => exact ⟨0, Nat.zero_le _, rfl, by go_num, World.grownBy.refl _ _, xs, HL.out, HW.out⟩
    case round =>
      obtain ⟨j, hj, rfl, rfl, hg, zs, hz, hr⟩ := hrel
      by_cases hlt : j < n
      · have hfz : wr.frozen? ⟨g, j, none⟩ = false := World.ownsRow.frozenAt hr j
        obtain ⟨y, hold⟩ : ∃ y, wr.cell? ⟨g, j, none⟩ = some (.bool y) := ⟨_, (World.ownsRow.cellAt hr j (by omega)).trans (bvals_get (by omega))⟩
        have HR := Lib.hid hr
        have HZ := Lib.hid hz
        clear hr hz
        go_wp2
        go_roundw
        case rel =>
          obtain ⟨r1, r2⟩ := World.ownsRow.stored HR.out j (.bool ((k + j) % 3 == 0))
          rw [bvals_set] at r1
          exact ⟨j + 1, by omega, by go_num, by go_num, hg.trans r2, zs.set j _, by rw [List.length_set]; exact HZ.out, r1⟩
        case measure => simp [intOf]; omega
      · obtain rfl : j = n := by omega
        go_wp2
        go_ret
        exact ⟨rfl, trivial, hg⟩
end Go.Proofs.Ytlgagnbnjfneaaa
