/- Marks on airways: what a law writes over its own copies. Conditions: the lengths that each theorem names. -/
import Derived.Test.YtlgagnbnjfneaaaMine
import Derived.Outline
import Derived.Laws.BytesArg
namespace Go.Proofs.Ytlgagnbnjfneaaa
open Go.RowKit
open Pl
def p10 : Nat → Int | 0 => 1 | n + 1 => 10 * p10 n
set_option maxRecDepth 100000 in
theorem markText_any (k : Int) (w : World) (h1 : 1 ≤ k) (h2 : k ≤ 1099511627776) :
    Calls Try.prog 97 #[.int .i64 k] w fun e w' => ∃ s : ByteArray, e = .returned (.string s) ∧ s.size ≤ 20 ∧ Below w.heap.size w w' := by
  have hp : k < p10 13 := by show k < 10000000000000; omega
  have HP := Lib.hid hp
  clear hp
  go_enter Try.func97, Try.ntmps97
  go_wp2
  go_loopw [0, 3] (fun x o wr => ∃ (y : Int) (s : ByteArray) (r : Nat), x = .int .i64 y ∧ o = .string s ∧ 0 ≤ y ∧ y ≤ 1099511627776 ∧ s.size + r = 13 ∧ y < p10 r ∧ Below w.heap.size w wr) (fun x _ _ => (intOf x).toNat)
  case atStart => exact ⟨k, ByteArray.empty, 13, rfl, rfl, by omega, h2, rfl, HP.out, Below.refl _ _⟩
  case round =>
    obtain ⟨y, s, r, rfl, rfl, y0, y1, hs, hy, hb⟩ := hrel
    by_cases hlt : 0 < y
    · have hr : ∃ r', r = r' + 1 := by
        cases r with
        | zero => exfalso; have : y < 1 := hy; omega
        | succ r' => exact ⟨r', rfl⟩
      obtain ⟨r', rfl⟩ := hr
      have hy' : y < 10 * p10 r' := hy
      have HY := Lib.hid hy'
      have HS := Lib.hid hs
      have hsz : s.size ≤ 12 := by omega
      clear hy hy' hs
      have hq0 : 0 ≤ y % 10 := Int.emod_nonneg _ (by decide)
      have hq1 : y % 10 < 10 := Int.emod_lt_of_pos _ (by decide)
      have hcv : (convert 160 9 (.slice (some ⟨wr.heap.size, 0, none⟩) 1 1)).run Try.prog (wr.alloc (.cells #[.int .u8 (48 + y % 10)] 5)) = .ok (.string (strOfNums [48 + y % 10])) (wr.alloc (.cells #[.int .u8 (48 + y % 10)] 5)) := by
        refine run_convert_bytes_arg _ _ 5 rfl rfl wr.heap.size 0 1 1 [48 + y % 10] rfl (fun i hi => ?_) _ rfl
        have : i = 0 := by omega
        subst this
        show _ = some (Value.int .u8 (48 + y % 10))
        go_simp
      have hov : ¬ (9223372036854775807 < (strOfNums [48 + y % 10]).size + s.size) := by rw [strOfNums_size]; show ¬ (9223372036854775807 < 1 + s.size); omega
      go_wp2
      have hy' := HY.out
      have hs := HS.out
      refine ⟨⟨y / 10, _, r', rfl, rfl, by omega, by omega, by rw [ByteArray.size_append, strOfNums_size]; show 1 + s.size + r' = 13; omega, by omega, hb.alloc hb.size _⟩, ?_⟩
      simp [intOf]
      omega
    · go_wp2
      exact bodyPost_ret (v := .string ({ data := #[109] } ++ s)) (by simp [results, Try.results97, go_sem]) rfl ⟨_, rfl, by rw [ByteArray.size_append]; show 1 + s.size ≤ 20; omega, hb⟩
theorem Below.grownBy {w w' : World} (h : Below w.heap.size w w') (row : Option Nat) : w.grownBy w' row := ⟨h.os, h.tape, h.output, h.size, fun k hk _ => h.block k hk⟩
set_option maxRecDepth 100000 in
set_option maxHeartbeats 800000 in
theorem markAirwayS_row (g c : Nat) (xs : List Aw) (k : Int) (base : Nat) (w : World) (hn : xs.length ≤ 1048576) (h1 : 1 ≤ k) (h2 : k ≤ 1099500000000) (hI : OwnR 92 encA 7 base w (.slice (some ⟨g, 0, none⟩) xs.length c) xs) :
    Calls Try.prog 49 #[.slice (some ⟨g, 0, none⟩) xs.length c, .int .i64 k] w fun e w' => e = .returned (.int .i64 (k + 7 * xs.length)) ∧ (∃ ys : List Aw, ys.length = xs.length ∧ OwnR 92 encA 7 base w' (.slice (some ⟨g, 0, none⟩) xs.length c) ys) ∧ w.grownBy w' (some g) := by
  have HI := Lib.hid hI
  clear hI
  obtain ⟨n, hnn⟩ : ∃ n, n = xs.length := ⟨_, rfl⟩
  rw [← hnn]
  rw [← hnn] at HI hn
  have HL := Lib.hid hnn
  clear hnn
  go_enter Try.func49, Try.ntmps49
  go_wp2
  go_loopw [1, 5] (fun q i wr => ∃ j : Nat, j ≤ n ∧ i = .int .i64 j ∧ q = .int .i64 (k + 7 * j) ∧ w.grownBy wr (some g) ∧ ∃ zs : List Aw, zs.length = n ∧ wr.ownsRow base 92 7 (.slice (some ⟨g, 0, none⟩) n c) n (zs.flatMap encA)) (fun _ i _ => n - (intOf i).toNat)
  case atStart =>
    refine ⟨0, Nat.zero_le _, rfl, by go_num, World.grownBy.refl _ _, xs, HL.out.symm, ?_⟩
    have h := HI.out
    unfold OwnR at h
    rw [← HL.out] at h
    exact h
  case round =>
    obtain ⟨j, hj, rfl, rfl, hg, zs, hz, ho⟩ := hrel
    by_cases hlt : j < n
    · have HO := Lib.hid ho
      have HZ := Lib.hid hz
      clear ho hz
      have HD := Lib.hid (markText_any (k + 7 * j) wr (by omega) (by omega))
      go_wp2_with fail
      refine HD.out.mono ?_
      rintro e w2 ⟨st, rfl, _, hb2⟩
      have hO2 := (show OwnR 92 encA 7 base wr (.slice (some ⟨g, 0, none⟩) n c) zs by unfold OwnR; rw [HZ.out]; exact HO.out).later hb2
      unfold OwnR at hO2
      rw [HZ.out] at hO2
      have hkz : j < zs.length := by rw [HZ.out]; exact hlt
      obtain ⟨y0, e0⟩ := flatA_cell (j := 0) hkz (by omega)
      obtain ⟨y1, e1⟩ := flatA_cell (j := 1) hkz (by omega)
      obtain ⟨y2, e2⟩ := flatA_cell (j := 2) hkz (by omega)
      obtain ⟨y3, e3⟩ := flatA_cell (j := 3) hkz (by omega)
      obtain ⟨y4, e4⟩ := flatA_cell (j := 4) hkz (by omega)
      obtain ⟨y5, e5⟩ := flatA_cell (j := 5) hkz (by omega)
      obtain ⟨y6, e6⟩ := flatA_cell (j := 6) hkz (by omega)
      have d0 := (World.ownsRow.cellAt hO2 (j * 7) (by omega)).trans e0
      have d1 := (World.ownsRow.cellAt hO2 (j * 7 + 1) (by omega)).trans e1
      have d2 := (World.ownsRow.cellAt hO2 (j * 7 + 2) (by omega)).trans e2
      have d3 := (World.ownsRow.cellAt hO2 (j * 7 + 3) (by omega)).trans e3
      have d4 := (World.ownsRow.cellAt hO2 (j * 7 + 4) (by omega)).trans e4
      have d5 := (World.ownsRow.cellAt hO2 (j * 7 + 5) (by omega)).trans e5
      have d6 := (World.ownsRow.cellAt hO2 (j * 7 + 6) (by omega)).trans e6
      have f0 := World.ownsRow.frozenAt hO2 (j * 7)
      have f1 := World.ownsRow.frozenAt hO2 (j * 7 + 1)
      have f2 := World.ownsRow.frozenAt hO2 (j * 7 + 2)
      have f3 := World.ownsRow.frozenAt hO2 (j * 7 + 3)
      have f4 := World.ownsRow.frozenAt hO2 (j * 7 + 4)
      have f5 := World.ownsRow.frozenAt hO2 (j * 7 + 5)
      have f6 := World.ownsRow.frozenAt hO2 (j * 7 + 6)
      have HO2 := Lib.hid hO2
      have hg2 := hg.trans (Below.grownBy hb2 (some g))
      have j0 : (0 : Int) ≤ (j : Int) := by omega
      have j1 : (j : Int) < n := by omega
      clear e0 e1 e2 e3 e4 e5 e6 hO2
      go_wp2
      go_roundw
      case rel =>
        obtain ⟨r0, s0⟩ := World.ownsRow.stored HO2.out (j * 7) (.string st)
        obtain ⟨r1, s1⟩ := World.ownsRow.stored r0 (j * 7 + 1) (.int .i64 (k + 7 * j + 1))
        obtain ⟨r2, s2⟩ := World.ownsRow.stored r1 (j * 7 + 2) (.int .i64 (k + 7 * j + 1 + 1))
        obtain ⟨r3, s3⟩ := World.ownsRow.stored r2 (j * 7 + 3) (.int .i64 (k + 7 * j + 1 + 1 + 1))
        obtain ⟨r4, s4⟩ := World.ownsRow.stored r3 (j * 7 + 4) (.int .i64 (k + 7 * j + 1 + 1 + 1 + 1))
        obtain ⟨r5, s5⟩ := World.ownsRow.stored r4 (j * 7 + 5) (.int .i64 (k + 7 * j + 1 + 1 + 1 + 1 + 1))
        obtain ⟨r6, s6⟩ := World.ownsRow.stored r5 (j * 7 + 6) (.int .i64 (k + 7 * j + 1 + 1 + 1 + 1 + 1 + 1))
        rw [flatA_set ⟨st, k + 7 * j + 1, k + 7 * j + 1 + 1, k + 7 * j + 1 + 1 + 1, k + 7 * j + 1 + 1 + 1 + 1, k + 7 * j + 1 + 1 + 1 + 1 + 1, k + 7 * j + 1 + 1 + 1 + 1 + 1 + 1⟩ zs j hkz] at r6
        exact ⟨j + 1, by omega, by go_num, by go_num, ((((((hg2.trans s0).trans s1).trans s2).trans s3).trans s4).trans s5).trans s6, _, by rw [List.length_set]; exact HZ.out, r6⟩
      case measure => simp [intOf]; omega
    · obtain rfl : j = n := by omega
      have HO := Lib.hid ho
      have HZ := Lib.hid hz
      clear ho hz
      go_wp2
      go_ret
      refine ⟨rfl, ⟨zs, HZ.out, ?_⟩, hg⟩
      unfold OwnR
      rw [HZ.out]
      exact HO.out
theorem markAirwayS_nil (k : Int) (w : World) : Calls Try.prog 49 #[.slice none 0 0, .int .i64 k] w fun e w' => e = .returned (.int .i64 k) ∧ w = w' := by
  go_enter Try.func49, Try.ntmps49
  go_wp2
  go_rounds 1
  go_ret
  exact ⟨rfl, rfl⟩
theorem markAirwayS_own (v : Value) (xs : List Aw) (k : Int) (base : Nat) (w : World) (hn : xs.length ≤ 1048576) (h1 : 1 ≤ k) (h2 : k ≤ 1099500000000) (hI : OwnR 92 encA 7 base w v xs) :
    Calls Try.prog 49 #[v, .int .i64 k] w fun e w' => e = .returned (.int .i64 (k + 7 * xs.length)) ∧ (∃ ys : List Aw, ys.length = xs.length ∧ OwnR 92 encA 7 base w' v ys) ∧ w.grownBy w' v.ownBlock := by
  rcases hI.form with ⟨rfl, rfl⟩ | ⟨g, c, rfl, _, _⟩
  · refine (markAirwayS_nil k w).mono ?_
    rintro e w' ⟨rfl, rfl⟩
    exact ⟨by simp, ⟨[], rfl, OwnR.nil_ _ _⟩, World.grownBy.refl _ _⟩
  · exact markAirwayS_row g c xs k base w hn h1 h2 hI
theorem markMine_own (J : Int) (v : Value) (xs : List Aw) (k : Int) (base : Nat) (w : World) (hn : xs.length ≤ 1048576) (h1 : 1 ≤ k) (h2 : k ≤ 1099500000000) (hI : OwnR 92 encA 7 base w v xs) :
    Calls Try.prog 17 #[.agg #[.int .i64 J, v], .int .i64 k] w fun e w' => e = .returned (.int .i64 (k + 7 * xs.length)) ∧ (∃ ys : List Aw, ys.length = xs.length ∧ OwnR 92 encA 7 base w' v ys) ∧ w.grownBy w' v.ownBlock := by
  have HS := Lib.hid (fun (W : World) (hb : Below w.heap.size w W) => markAirwayS_own v xs k base W hn h1 h2 (hI.later hb))
  clear hI
  go_enter Try.func17, Try.ntmps17
  go_wp2_with fail
  have hbe : Below w.heap.size w (w.alloc (.cells #[.int .i64 J, v] 31)) := by go_grown
  refine (HS.out _ hbe).mono ?_
  rintro e w1 ⟨rfl, hy, hg⟩
  have hgg := (Below.grownBy hbe v.ownBlock).trans hg
  clear hg hbe
  go_wp2
  go_ret
  exact ⟨rfl, hy, hgg⟩
end Go.Proofs.Ytlgagnbnjfneaaa
