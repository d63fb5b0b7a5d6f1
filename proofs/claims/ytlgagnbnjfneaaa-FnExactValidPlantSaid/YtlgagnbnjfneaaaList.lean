/- The laws' own functions on lists of numbers: a copy, a comparison, marks that are laid and asked for. What a list of the call's own is in memory. Conditions: the lengths that each theorem names. -/
import Derived.Test.YtlgagnbnjfneaaaBase
import Derived.Test.YtlgagnbnjfneaaaFrame
import Derived.Handy
import Derived.Lib.Hide
import Derived.OwnWalk
import Derived.Maps.AppendAt
import Derived.Laws.OwnMore
import Derived.Deep.AppendLies
namespace Go.Proofs.Ytlgagnbnjfneaaa
open Go.RowKit
open Pl

theorem le_max {n : Nat} (h : n ≤ 1099511627776) : n ≤ maxLen := by unfold maxLen; omega
theorem infoI : (Try.prog.info? 2).map (fun i => (i.zero, i.size, i.bytes)) = some (some (.int .i64 0), 1, 8) := by kernel_rfl

/-- The values of numbers. -/
def vals (xs : List Int) : List Value := xs.map (Value.int .i64)
theorem vals_length (xs : List Int) : (vals xs).length = xs.length := List.length_map _
theorem vals_get {xs : List Int} {j : Nat} (h : j < xs.length) : (vals xs)[j]? = some (.int .i64 xs[j]) := by unfold vals; rw [List.getElem?_map, List.getElem?_eq_getElem h]; rfl
theorem vals_append (xs ys : List Int) : vals (xs ++ ys) = vals xs ++ vals ys := List.map_append
theorem vals_set (xs : List Int) (j : Nat) (x : Int) : (vals xs).set j (.int .i64 x) = vals (xs.set j x) := by unfold vals; rw [List.map_set]

/-- 'Own base w v xs': the slice value v owns the numbers xs, in a block from base on (nil, if none). -/
def Own (base : Nat) (w : World) (v : Value) (xs : List Int) : Prop := w.ownsRow base 2 1 v xs.length (vals xs)

theorem Own.nil_ (base : Nat) (w : World) : Own base w (.slice none 0 0) [] := World.ownsRow_nil _ _ _ _
/-- The form of such a value: an address that may be nil, and a capacity. -/
theorem Own.form {base : Nat} {w : World} {v : Value} {xs : List Int} (h : Own base w v xs) :
    (v = .slice none 0 0 ∧ xs = []) ∨ ∃ g c, v = .slice (some ⟨g, 0, none⟩) xs.length c ∧ base ≤ g ∧ g < w.heap.size := by
  rcases h.2 with ⟨rfl, h0⟩ | ⟨g, cap, cur, hv, hb, hg, _⟩
  · exact .inl ⟨rfl, List.eq_nil_of_length_eq_zero h0⟩
  · exact .inr ⟨g, cap, hv, hb, (Array.getElem?_eq_some_iff.1 hg).1⟩
theorem Own.slice {base : Nat} {w : World} {v : Value} {xs : List Int} (h : Own base w v xs) : ∃ A c, v = .slice A xs.length c ∧ Ints w.heap.size w A xs ∧ (∀ ad, A = some ad → ad = ⟨ad.block, 0, none⟩ ∧ base ≤ ad.block ∧ ad.block < w.heap.size) := by
  rcases h.form with ⟨rfl, rfl⟩ | ⟨g, c, rfl, hb, hlt⟩
  · exact ⟨none, 0, rfl, Ints.nil, fun ad h => by cases h⟩
  · refine ⟨some ⟨g, 0, none⟩, c, rfl, fun _ => ⟨_, rfl, hlt, fun k hk => ?_⟩, fun ad h => by cases h; exact ⟨rfl, hb, hlt⟩⟩
    exact World.ownsRow.cells h rfl k _ (vals_get hk)
theorem Own.ints {base : Nat} {w : World} {A : Option Addr} {n c : Nat} {xs : List Int} (h : Own base w (.slice A n c) xs) : Ints w.heap.size w A xs := by
  obtain ⟨A', c', he, hi, _⟩ := h.slice
  injection he with h1 h2 h3
  subst h1
  exact hi
theorem Own.below {base B : Nat} {w w' : World} {v : Value} {xs : List Int} (h : Own base w v xs) (hb : Below B w w') (hB : ∀ g, v.ownBlock = some g → g < B) : Own base w' v xs := by
  refine ⟨h.1, ?_⟩
  rcases h.2 with hn | ⟨g, cap, cur, rfl, h1, h2, rest⟩
  · exact .inl hn
  · exact .inr ⟨g, cap, cur, rfl, h1, (hb.block g (hB g rfl)).trans h2, rest⟩
/-- .. over a call that leaves all that was there. -/
theorem Own.later {base : Nat} {w w' : World} {v : Value} {xs : List Int} (h : Own base w v xs) (hb : Below w.heap.size w w') : Own base w' v xs :=
  h.below hb (fun g hg => (World.ownsRow.lt h g hg).2)
theorem Own.kept {base : Nat} {w w' : World} {v : Value} {xs : List Int} {row : Option Nat} (h : Own base w v xs) (hg : w.grownBy w' row) (hne : v.ownBlock = none ∨ v.ownBlock ≠ row) : Own base w' v xs :=
  World.ownsRow.kept h hg hne
theorem Own.base {b b' : Nat} {w : World} {v : Value} {xs : List Int} (h : Own b w v xs) (hb : ∀ g, v.ownBlock = some g → b' ≤ g) : Own b' w v xs := by
  refine ⟨h.1, ?_⟩
  rcases h.2 with hn | ⟨g, cap, cur, rfl, h1, rest⟩
  · exact .inl hn
  · exact .inr ⟨g, cap, cur, rfl, hb g rfl, rest⟩

theorem take_set_succ {zs xs : List Int} {k : Nat} (hz : zs.length = xs.length) (hk : k < xs.length) (h : zs.take k = xs.take k) : (zs.set k xs[k]).take (k + 1) = xs.take (k + 1) := by
  apply List.ext_getElem?
  intro j
  rw [List.getElem?_take, List.getElem?_take]
  split
  · by_cases e : j = k
    · subst e; rw [List.getElem?_set_self (by omega), List.getElem?_eq_getElem hk]
    · rw [List.getElem?_set_ne (Ne.symm e)]
      have := congrArg (·[j]?) h
      simp only [List.getElem?_take] at this
      rw [if_pos (by omega), if_pos (by omega)] at this
      exact this
  · rfl
theorem take_all_eq {zs xs : List Int} (hz : zs.length = xs.length) (h : zs.take xs.length = xs.take xs.length) : zs = xs := by
  rw [List.take_of_length_le (by omega), List.take_of_length_le (by omega)] at h; exact h
/-- A copy of a list: a new row. -/
theorem toInt64S_any (A : Option Addr) (c : Nat) (xs : List Int) (B : Nat) (w : World) (hn : xs.length ≤ 1048576) (hI : Ints B w A xs) (hB : B ≤ w.heap.size) :
    Calls Try.prog 13 #[.slice A xs.length c] w fun e w' => e = .returned (.slice (some ⟨w.heap.size, 0, none⟩) xs.length xs.length) ∧ Own w.heap.size w' (.slice (some ⟨w.heap.size, 0, none⟩) xs.length xs.length) xs ∧ Below w.heap.size w w' := by
  obtain ⟨i0, hi, hz0, hz1, hz2⟩ := info_parts infoI
  have hbb : i0.bytes * xs.length ≤ 281474976710656 := by rw [hz2]; omega
  have hmx : xs.length ≤ maxLen := le_max (by omega)
  go_enter Try.func13, Try.ntmps13
  go_wp2_with (at_make; refine wpList_make_full _ rfl (.tmp 6) (.tmp 6) 25 rfl w.heap.size 2 i0 (.int .i64 0) 1 Try.underlying25 hi hz0 hz1 .i64 .i64 (xs.length : Int) (xs.length : Int) xs.length rfl rfl rfl rfl hbb hmx (Nat.le_refl _) ?_; intro w1 hown hgr)
  have hbe : Below w.heap.size w w1 := (Below.refl _ _).grown hgr (Nat.le_refl _) (fun k hk => by cases hk)
  have HO : ∃ zs : List Int, zs.length = xs.length ∧ zs.take 0 = xs.take 0 ∧ w1.ownsRow w.heap.size 2 1 (.slice (some ⟨w.heap.size, 0, none⟩) xs.length xs.length) xs.length (vals zs) := by
    refine ⟨List.replicate xs.length 0, by simp, by simp, ?_⟩
    unfold vals
    have e : (madeCells (Value.int .i64 0).cells (xs.length * 1)).toList = (List.replicate xs.length (0 : Int)).map (Value.int .i64) := by
      rw [Nat.mul_one, List.map_replicate]
      exact toList_madeCells_one _ _
    rw [e] at hown
    exact hown
  clear hown hgr hbb hmx hi hz0 hz1 hz2
  have HH := Lib.hid HO
  clear HO
  go_wp2
  go_loopw [4] (fun i wr => ∃ k : Nat, k ≤ xs.length ∧ i = .int .i64 k ∧ Below w.heap.size w wr ∧ w.heap.size < wr.heap.size ∧ ∃ zs : List Int, zs.length = xs.length ∧ zs.take k = xs.take k ∧ wr.ownsRow w.heap.size 2 1 (.slice (some ⟨w.heap.size, 0, none⟩) xs.length xs.length) xs.length (vals zs)) (fun i _ => xs.length - (intOf i).toNat)
  case atStart =>
    obtain ⟨zs, h1, h2, h3⟩ := HH.out
    exact ⟨0, Nat.zero_le _, rfl, hbe, (World.ownsRow.lt h3 _ rfl).2, zs, h1, h2, h3⟩
  case round =>
    obtain ⟨k, hk, rfl, hb, hlt2, zs, hz, ht, ho⟩ := hrel
    by_cases hlt : k < xs.length
    · obtain ⟨ad, rfl, hab, hcell0⟩ := hI.at_ hlt
      have hcell : wr.cell? (ad.add k) = some (.int .i64 xs[k]) := (hb.cell (by rw [block_add]; omega)).trans hcell0
      have hfz : wr.frozen? ⟨w.heap.size, k, none⟩ = false := World.ownsRow.frozenAt ho k
      obtain ⟨y, hold⟩ : ∃ y, wr.cell? ⟨w.heap.size, k, none⟩ = some (.int .i64 y) := ⟨_, (World.ownsRow.cellAt ho k (by omega)).trans (vals_get (by omega))⟩
      have HO := Lib.hid ho
      have HZ := Lib.hid hz
      have HT := Lib.hid ht
      clear ho hz ht hcell0
      obtain ⟨x, hx⟩ : ∃ x, x = xs[k] := ⟨_, rfl⟩
      rw [← hx] at hcell
      have HX := Lib.hid hx
      clear hx
      go_wp2
      go_roundw
      case rel =>
        obtain ⟨h1, h2⟩ := World.ownsRow.stored HO.out k (.int .i64 x)
        rw [vals_set] at h1
        refine ⟨k + 1, by omega, by go_num, hb.setCell (by simp) _, by simpa using hlt2, zs.set k x, by rw [List.length_set]; exact HZ.out, ?_, h1⟩
        rw [HX.out]
        exact take_set_succ HZ.out hlt HT.out
      case measure => simp [intOf]; omega
    · obtain rfl : k = xs.length := by omega
      have HE := Lib.hid (take_all_eq hz ht)
      have HO := Lib.hid ho
      clear ho hz ht
      go_wp2
      go_ret
      refine ⟨rfl, ?_, hb⟩
      have h := HO.out
      rw [HE.out] at h
      exact h

/-! ### Comparison -/
theorem eqInt64S_yes (A A' : Option Addr) (c c' : Nat) (xs : List Int) (B B' : Nat) (w : World) (hn : xs.length ≤ 1099511627776) (hI : Ints B w A xs) (hI' : Ints B' w A' xs) :
    Calls Try.prog 15 #[.slice A xs.length c, .slice A' xs.length c'] w fun e w' => e = .returned (.bool true) ∧ ∃ n, w.drewN n = w' := by
  go_enter Try.func15, Try.ntmps15
  go_wp2
  go_loopw [5] (fun i wr => ∃ k : Nat, k ≤ xs.length ∧ i = .int .i64 k ∧ ∃ n, w.drewN n = wr) (fun i _ => xs.length - (intOf i).toNat)
  case atStart => exact ⟨0, Nat.zero_le _, rfl, 0, rfl⟩
  case round =>
    obtain ⟨k, hk, rfl, n, rfl⟩ := hrel
    by_cases hlt : k < xs.length
    · obtain ⟨ad, rfl, _, hc1⟩ := hI.at_ hlt
      obtain ⟨ad', rfl, _, hc2⟩ := hI'.at_ hlt
      have hi1 : (k : Int) < xs.length := by omega
      have hi0 : (0 : Int) ≤ k := by omega
      generalize xs[k] = x at *
      go_wp2_with fail
      go_quiet (fail)
      go_wp2
      go_roundw
      case rel => exact ⟨k + 1, by omega, by go_num, _, rfl⟩
      case measure => simp [intOf]; omega
    · go_wp2
      go_ret
      exact ⟨rfl, _, rfl⟩

/-! ### Marks -/
def marks (k : Int) (n : Nat) : List Int := (List.range n).map (fun j : Nat => k + (j : Int))
theorem marks_length (k : Int) (n : Nat) : (marks k n).length = n := by unfold marks; simp
theorem marks_get (k : Int) (n j : Nat) (h : j < (marks k n).length) : (marks k n)[j] = k + (j : Int) := by simp [marks]
theorem markInt64S_nil (k : Int) (w : World) :
    Calls Try.prog 18 #[.slice none 0 0, .int .i64 k] w fun e w' => e = .returned (.int .i64 k) ∧ w = w' := by
  go_enter Try.func18, Try.ntmps18
  go_wp2
  go_rounds 1
  go_ret
  exact ⟨rfl, rfl⟩
theorem markInt64S_row (g c n : Nat) (xs : List Int) (k : Int) (base : Nat) (w : World) (hn : n ≤ 1099511627776) (h1 : 0 ≤ k) (h2 : k ≤ 1099511627776) (hl : xs.length = n) (ho : w.ownsRow base 2 1 (.slice (some ⟨g, 0, none⟩) n c) n (vals xs)) :
    Calls Try.prog 18 #[.slice (some ⟨g, 0, none⟩) n c, .int .i64 k] w fun e w' => e = .returned (.int .i64 (k + n)) ∧ w'.ownsRow base 2 1 (.slice (some ⟨g, 0, none⟩) n c) n (vals (marks k n)) ∧ w.grownBy w' (some g) := by
  have HL := Lib.hid hl
  have HW := Lib.hid ho
  clear hl ho
  go_enter Try.func18, Try.ntmps18
  go_wp2
  go_loopw [1, 5] (fun q i wr => ∃ j : Nat, j ≤ n ∧ i = .int .i64 j ∧ q = .int .i64 (k + j) ∧ w.grownBy wr (some g) ∧ ∃ zs : List Int, zs.length = n ∧ zs.take j = (marks k n).take j ∧ wr.ownsRow base 2 1 (.slice (some ⟨g, 0, none⟩) n c) n (vals zs)) (fun _ i _ => n - (intOf i).toNat)
  case atStart => exact ⟨0, Nat.zero_le _, rfl, by go_num, World.grownBy.refl _ _, xs, HL.out, rfl, HW.out⟩
  case round =>
    obtain ⟨j, hj, rfl, rfl, hg, zs, hz, ht, hr⟩ := hrel
    by_cases hlt : j < n
    · have hfz : wr.frozen? ⟨g, j, none⟩ = false := World.ownsRow.frozenAt hr j
      obtain ⟨y, hold⟩ : ∃ y, wr.cell? ⟨g, j, none⟩ = some (.int .i64 y) := ⟨_, (World.ownsRow.cellAt hr j (by omega)).trans (vals_get (by omega))⟩
      have HR := Lib.hid hr
      have HZ := Lib.hid hz
      have HT := Lib.hid ht
      clear hr hz ht
      go_wp2
      go_roundw
      case rel =>
        obtain ⟨r1, r2⟩ := World.ownsRow.stored HR.out j (.int .i64 (k + j))
        rw [vals_set] at r1
        refine ⟨j + 1, by omega, by go_num, by go_num, ?_, zs.set j (k + j), by rw [List.length_set]; exact HZ.out, ?_, r1⟩
        · exact hg.trans r2
        · have := take_set_succ (zs := zs) (xs := marks k n) (k := j) (by rw [HZ.out, marks_length]) (by rw [marks_length]; exact hlt) HT.out
          rw [marks_get] at this
          exact this
      case measure => simp [intOf]; omega
    · obtain rfl : j = n := by omega
      have HE := Lib.hid (take_all_eq (zs := zs) (xs := marks k j) (by rw [hz, marks_length]) (by rw [marks_length]; exact ht))
      have HR := Lib.hid hr
      clear hr hz ht
      go_wp2
      go_ret
      refine ⟨rfl, ?_, hg⟩
      rw [← HE.out]
      exact HR.out
theorem heldInt64S_any (A : Option Addr) (c n : Nat) (k : Int) (B : Nat) (w : World) (hn : n ≤ 1099511627776) (h1 : 0 ≤ k) (h2 : k ≤ 1099511627776) (hI : Ints B w A (marks k n)) :
    Calls Try.prog 19 #[.slice A n c, .int .i64 k] w fun e w' => e = .returned (.int .i64 (k + n)) ∧ w = w' := by
  go_enter Try.func19, Try.ntmps19
  go_wp2
  go_loop [1, 5] (fun q i => ∃ j : Nat, j ≤ n ∧ i = .int .i64 j ∧ q = .int .i64 (k + j)) (fun _ i => n - (intOf i).toNat)
  case atStart => exact ⟨0, Nat.zero_le _, rfl, by go_num⟩
  case round =>
    obtain ⟨j, hj, rfl, rfl⟩ := hrel
    by_cases hlt : j < n
    · obtain ⟨ad, rfl, _, hc⟩ := hI.at_ (k := j) (by rw [marks_length]; exact hlt)
      rw [marks_get] at hc
      go_wp2
      go_round
      case rel => exact ⟨j + 1, by omega, by go_num, by go_num⟩
      case measure => simp [intOf]; omega
    · obtain rfl : j = n := by omega
      go_wp2
      go_ret
      exact ⟨rfl, rfl⟩
end Go.Proofs.Ytlgagnbnjfneaaa
