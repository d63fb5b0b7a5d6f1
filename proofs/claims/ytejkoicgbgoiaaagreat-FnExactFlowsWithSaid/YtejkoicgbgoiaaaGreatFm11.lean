/- Proved here: the parts PtW, PlantE, DoorV, DoorsV, DoorsW of the row's proof, joined by a program. Conditions: as each part says. -/
import Derived.Test.YtejkoicgbgoiaaaGreatFm10
/- Marks on plants: what a law writes over its own copy. Conditions: the lengths that each theorem names. Printed by gen_ptw.py. -/
namespace Go.Proofs.YtejkoicgbgoiaaaGreat
open Go.RowKit
open Pl
/-- From address A on lie n rows of s cells (a string, then numbers) that may be written, in a block from L on and below H. -/
def WRec (s L H : Nat) (w : World) (A : Option Addr) (n : Nat) : Prop :=
  0 < n → ∃ g, A = some ⟨g, 0, none⟩ ∧ L ≤ g ∧ g < H ∧ ∀ j, j < n → (∃ t, w.cell? ⟨g, j * s, none⟩ = some (.string t)) ∧ (∀ i, 1 ≤ i → i < s → ∃ y, w.cell? ⟨g, j * s + i, none⟩ = some (.int .i64 y)) ∧ ∀ i, w.frozen? ⟨g, j * s + i, none⟩ = false
theorem WRec.below {s L H : Nat} {w w' : World} {A : Option Addr} {n : Nat} (h : WRec s L H w A n) (hb : Below H w w') : WRec s L H w' A n := by
  intro hn
  obtain ⟨g, e, h1, h2, hc⟩ := h hn
  refine ⟨g, e, h1, h2, fun j hj => ?_⟩
  obtain ⟨⟨t, k0⟩, k1, k2⟩ := hc j hj
  refine ⟨⟨t, (hb.cell (p := ⟨g, j * s, none⟩) h2).trans k0⟩, fun i i1 i2 => ?_, fun i => (hb.frozen (p := ⟨g, j * s + i, none⟩) h2).trans (k2 i)⟩
  obtain ⟨y, k3⟩ := k1 i i1 i2
  exact ⟨y, (hb.cell (p := ⟨g, j * s + i, none⟩) h2).trans k3⟩
theorem WRec.more {s L L' H H' : Nat} {w : World} {A : Option Addr} {n : Nat} (h : WRec s L H w A n) (hL : L' ≤ L) (hH : H ≤ H') : WRec s L' H' w A n := by
  intro hn
  obtain ⟨g, e, h1, h2, hc⟩ := h hn
  exact ⟨g, e, by omega, by omega, hc⟩
theorem WRec.zone {s L H L' H' : Nat} {w w' : World} {A : Option Addr} {n : Nat} (h : WRec s L H w A n) (z : Zone L' H' w w') : WRec s L H w' A n := by
  intro hn
  obtain ⟨g, e, h1, h2, hc⟩ := h hn
  refine ⟨g, e, h1, h2, fun j hj => ?_⟩
  obtain ⟨⟨t, k0⟩, k1, k2⟩ := hc j hj
  refine ⟨z.str _ _ k0, fun i i1 i2 => ?_, fun i => (z.fz _ (show g < w.heap.size from cell_lt k0)).trans (k2 i)⟩
  obtain ⟨y, k3⟩ := k1 i i1 i2
  exact z.num _ _ k3
theorem WRec.ofA {base : Nat} {T : TypeId} {w : World} {A : Option Addr} {n c : Nat} {xs : List Aw} (h : OwnR T encA 7 base w (.slice A n c) xs) (hl : xs.length = n) : WRec 7 base w.heap.size w A n := by
  intro hn
  rcases h.form with ⟨he, hx⟩ | ⟨g, c', he, _, _⟩
  · subst hx; simp at hl; omega
  · injection he with e1 e2 e3
    subst e1 e3 hl
    obtain ⟨b0, b1⟩ := World.ownsRow.lt h g rfl
    refine ⟨g, rfl, b0, b1, fun j hj => ?_⟩
    obtain ⟨b, o, e, -, hc⟩ := (h.rows encA_len).at_ hj
    injection e with e
    injection e with e e' _
    subst e e'
    refine ⟨⟨_, by have := hc 0 _ rfl; simpa using this⟩, fun i i1 i2 => ?_, fun i => World.ownsRow.frozenAt h (j * 7 + i)⟩
    have : i = 1 ∨ i = 2 ∨ i = 3 ∨ i = 4 ∨ i = 5 ∨ i = 6 := by omega
    rcases this with rfl | rfl | rfl | rfl | rfl | rfl
    · exact ⟨_, by have := hc 1 _ rfl; simpa using this⟩
    · exact ⟨_, by have := hc 2 _ rfl; simpa using this⟩
    · exact ⟨_, by have := hc 3 _ rfl; simpa using this⟩
    · exact ⟨_, by have := hc 4 _ rfl; simpa using this⟩
    · exact ⟨_, by have := hc 5 _ rfl; simpa using this⟩
    · exact ⟨_, by have := hc 6 _ rfl; simpa using this⟩
theorem WRec.ofD {base : Nat} {T : TypeId} {w : World} {A : Option Addr} {n c : Nat} {xs : List Do} (h : OwnR T encDo 4 base w (.slice A n c) xs) (hl : xs.length = n) : WRec 4 base w.heap.size w A n := by
  intro hn
  rcases h.form with ⟨he, hx⟩ | ⟨g, c', he, _, _⟩
  · subst hx; simp at hl; omega
  · injection he with e1 e2 e3
    subst e1 e3 hl
    obtain ⟨b0, b1⟩ := World.ownsRow.lt h g rfl
    refine ⟨g, rfl, b0, b1, fun j hj => ?_⟩
    obtain ⟨b, o, e, -, hc⟩ := (h.rows encDo_len).at_ hj
    injection e with e
    injection e with e e' _
    subst e e'
    refine ⟨⟨_, by have := hc 0 _ rfl; simpa using this⟩, fun i i1 i2 => ?_, fun i => World.ownsRow.frozenAt h (j * 4 + i)⟩
    have : i = 1 ∨ i = 2 ∨ i = 3 := by omega
    rcases this with rfl | rfl | rfl
    · exact ⟨_, by have := hc 1 _ rfl; simpa using this⟩
    · exact ⟨_, by have := hc 2 _ rfl; simpa using this⟩
    · exact ⟨_, by have := hc 3 _ rfl; simpa using this⟩
set_option maxRecDepth 100000 in
set_option maxHeartbeats 1600000 in
theorem markAirwayS_z (L H : Nat) (A : Option Addr) (c n : Nat) (k : Int) (w : World) (hn : n ≤ 1048576) (h1 : 1 ≤ k) (h2 : k ≤ 1099500000000) (hw : WRec 7 L H w A n) :
    Calls Tryz.prog 45 #[.slice A n c, .int .i64 k] w fun e w' => e = .returned (.int .i64 (k + 7 * n)) ∧ Zone L H w w' := by
  have HW := Lib.hid hw
  clear hw
  go_enter Tryz.func45, Tryz.ntmps45
  go_wp2
  go_loopw [1, 5] (fun q i wr => ∃ j : Nat, j ≤ n ∧ i = .int .i64 j ∧ q = .int .i64 (k + 7 * j) ∧ Zone L H w wr) (fun _ i _ => n - (intOf i).toNat)
  case atStart => exact ⟨0, Nat.zero_le _, rfl, by go_num, Zone.refl _ _ _⟩
  case round =>
    obtain ⟨j, hj, rfl, rfl, hz⟩ := hrel
    have HZ := Lib.hid hz
    by_cases hlt : j < n
    · obtain ⟨g, rfl, g1, g2, hc⟩ := HW.out.zone hz (by omega)
      have HD := Lib.hid (markText_any (k + 7 * j) wr (by omega) (by omega))
      have j0 : (0 : Int) ≤ (j : Int) := by omega
      have j1 : (j : Int) < n := by omega
      have HCJ := Lib.hid (hc j hlt)
      clear hz hc
      go_wp2_with fail
      refine HD.out.mono ?_
      rintro e w2 ⟨st, rfl, -, hb2⟩
      have hz2 : Zone L H wr w2 := Zone.of_below hb2
      obtain ⟨⟨t0, c0⟩, cn, cf⟩ := HCJ.out
      obtain ⟨u0, d0⟩ := hz2.str _ _ c0
      obtain ⟨t1, c1⟩ := cn 1 (by omega) (by omega)
      obtain ⟨u1, d1⟩ := hz2.num _ _ c1
      obtain ⟨t2, c2⟩ := cn 2 (by omega) (by omega)
      obtain ⟨u2, d2⟩ := hz2.num _ _ c2
      obtain ⟨t3, c3⟩ := cn 3 (by omega) (by omega)
      obtain ⟨u3, d3⟩ := hz2.num _ _ c3
      obtain ⟨t4, c4⟩ := cn 4 (by omega) (by omega)
      obtain ⟨u4, d4⟩ := hz2.num _ _ c4
      obtain ⟨t5, c5⟩ := cn 5 (by omega) (by omega)
      obtain ⟨u5, d5⟩ := hz2.num _ _ c5
      obtain ⟨t6, c6⟩ := cn 6 (by omega) (by omega)
      obtain ⟨u6, d6⟩ := hz2.num _ _ c6
      have f0 : w2.frozen? ⟨g, j * 7, none⟩ = false := (hz2.fz ⟨g, j * 7, none⟩ (show g < wr.heap.size from cell_lt c0)).trans (cf 0)
      have f1 : w2.frozen? ⟨g, j * 7 + 1, none⟩ = false := (hz2.fz ⟨g, j * 7 + 1, none⟩ (show g < wr.heap.size from cell_lt c0)).trans (cf 1)
      have f2 : w2.frozen? ⟨g, j * 7 + 2, none⟩ = false := (hz2.fz ⟨g, j * 7 + 2, none⟩ (show g < wr.heap.size from cell_lt c0)).trans (cf 2)
      have f3 : w2.frozen? ⟨g, j * 7 + 3, none⟩ = false := (hz2.fz ⟨g, j * 7 + 3, none⟩ (show g < wr.heap.size from cell_lt c0)).trans (cf 3)
      have f4 : w2.frozen? ⟨g, j * 7 + 4, none⟩ = false := (hz2.fz ⟨g, j * 7 + 4, none⟩ (show g < wr.heap.size from cell_lt c0)).trans (cf 4)
      have f5 : w2.frozen? ⟨g, j * 7 + 5, none⟩ = false := (hz2.fz ⟨g, j * 7 + 5, none⟩ (show g < wr.heap.size from cell_lt c0)).trans (cf 5)
      have f6 : w2.frozen? ⟨g, j * 7 + 6, none⟩ = false := (hz2.fz ⟨g, j * 7 + 6, none⟩ (show g < wr.heap.size from cell_lt c0)).trans (cf 6)
      have HZ2 := Lib.hid (HZ.out.trans hz2)
      have z1 : Zone L H w2 (w2.setCell ⟨g, j * 7, none⟩ (.string st)) := Zone.setStr st d0 g1 g2
      obtain ⟨y1, e1⟩ := z1.num _ _ d1
      have z2 : Zone L H w2 ((w2.setCell ⟨g, j * 7, none⟩ (.string st)).setCell ⟨g, j * 7 + 1, none⟩ (.int .i64 (k + 7 * j + 1))) := z1.trans (Zone.setInt _ e1 g1 g2)
      obtain ⟨y2, e2⟩ := z2.num _ _ d2
      have z3 : Zone L H w2 (((w2.setCell ⟨g, j * 7, none⟩ (.string st)).setCell ⟨g, j * 7 + 1, none⟩ (.int .i64 (k + 7 * j + 1))).setCell ⟨g, j * 7 + 2, none⟩ (.int .i64 (k + 7 * j + 1 + 1))) := z2.trans (Zone.setInt _ e2 g1 g2)
      obtain ⟨y3, e3⟩ := z3.num _ _ d3
      have z4 : Zone L H w2 ((((w2.setCell ⟨g, j * 7, none⟩ (.string st)).setCell ⟨g, j * 7 + 1, none⟩ (.int .i64 (k + 7 * j + 1))).setCell ⟨g, j * 7 + 2, none⟩ (.int .i64 (k + 7 * j + 1 + 1))).setCell ⟨g, j * 7 + 3, none⟩ (.int .i64 (k + 7 * j + 1 + 1 + 1))) := z3.trans (Zone.setInt _ e3 g1 g2)
      obtain ⟨y4, e4⟩ := z4.num _ _ d4
      have z5 : Zone L H w2 (((((w2.setCell ⟨g, j * 7, none⟩ (.string st)).setCell ⟨g, j * 7 + 1, none⟩ (.int .i64 (k + 7 * j + 1))).setCell ⟨g, j * 7 + 2, none⟩ (.int .i64 (k + 7 * j + 1 + 1))).setCell ⟨g, j * 7 + 3, none⟩ (.int .i64 (k + 7 * j + 1 + 1 + 1))).setCell ⟨g, j * 7 + 4, none⟩ (.int .i64 (k + 7 * j + 1 + 1 + 1 + 1))) := z4.trans (Zone.setInt _ e4 g1 g2)
      obtain ⟨y5, e5⟩ := z5.num _ _ d5
      have z6 : Zone L H w2 ((((((w2.setCell ⟨g, j * 7, none⟩ (.string st)).setCell ⟨g, j * 7 + 1, none⟩ (.int .i64 (k + 7 * j + 1))).setCell ⟨g, j * 7 + 2, none⟩ (.int .i64 (k + 7 * j + 1 + 1))).setCell ⟨g, j * 7 + 3, none⟩ (.int .i64 (k + 7 * j + 1 + 1 + 1))).setCell ⟨g, j * 7 + 4, none⟩ (.int .i64 (k + 7 * j + 1 + 1 + 1 + 1))).setCell ⟨g, j * 7 + 5, none⟩ (.int .i64 (k + 7 * j + 1 + 1 + 1 + 1 + 1))) := z5.trans (Zone.setInt _ e5 g1 g2)
      obtain ⟨y6, e6⟩ := z6.num _ _ d6
      have z7 : Zone L H w2 (((((((w2.setCell ⟨g, j * 7, none⟩ (.string st)).setCell ⟨g, j * 7 + 1, none⟩ (.int .i64 (k + 7 * j + 1))).setCell ⟨g, j * 7 + 2, none⟩ (.int .i64 (k + 7 * j + 1 + 1))).setCell ⟨g, j * 7 + 3, none⟩ (.int .i64 (k + 7 * j + 1 + 1 + 1))).setCell ⟨g, j * 7 + 4, none⟩ (.int .i64 (k + 7 * j + 1 + 1 + 1 + 1))).setCell ⟨g, j * 7 + 5, none⟩ (.int .i64 (k + 7 * j + 1 + 1 + 1 + 1 + 1))).setCell ⟨g, j * 7 + 6, none⟩ (.int .i64 (k + 7 * j + 1 + 1 + 1 + 1 + 1 + 1))) := z6.trans (Zone.setInt _ e6 g1 g2)
      have HZE := Lib.hid (HZ2.out.trans z7)
      clear hz2 cn cf HCJ z1 z2 z3 z4 z5 z6 z7 e1 e2 e3 e4 e5 e6 c0 c1 c2 c3 c4 c5 c6
      go_wp2
      go_roundw
      case rel => exact ⟨j + 1, by omega, by go_num, by go_num, HZE.out⟩
      case measure => simp [intOf]; omega
    · obtain rfl : j = n := by omega
      clear hz
      go_wp2
      go_ret
      exact ⟨rfl, HZ.out⟩
set_option maxRecDepth 100000 in
set_option maxHeartbeats 1600000 in
theorem markDoorS_z (L H : Nat) (A : Option Addr) (c n : Nat) (k : Int) (w : World) (hn : n ≤ 1048576) (h1 : 1 ≤ k) (h2 : k ≤ 1099500000000) (hw : WRec 4 L H w A n) :
    Calls Tryz.prog 59 #[.slice A n c, .int .i64 k] w fun e w' => e = .returned (.int .i64 (k + 4 * n)) ∧ Zone L H w w' := by
  have HW := Lib.hid hw
  clear hw
  go_enter Tryz.func59, Tryz.ntmps59
  go_wp2
  go_loopw [1, 5] (fun q i wr => ∃ j : Nat, j ≤ n ∧ i = .int .i64 j ∧ q = .int .i64 (k + 4 * j) ∧ Zone L H w wr) (fun _ i _ => n - (intOf i).toNat)
  case atStart => exact ⟨0, Nat.zero_le _, rfl, by go_num, Zone.refl _ _ _⟩
  case round =>
    obtain ⟨j, hj, rfl, rfl, hz⟩ := hrel
    have HZ := Lib.hid hz
    by_cases hlt : j < n
    · obtain ⟨g, rfl, g1, g2, hc⟩ := HW.out.zone hz (by omega)
      have HD := Lib.hid (markText_any (k + 4 * j) wr (by omega) (by omega))
      have j0 : (0 : Int) ≤ (j : Int) := by omega
      have j1 : (j : Int) < n := by omega
      have HCJ := Lib.hid (hc j hlt)
      clear hz hc
      go_wp2_with fail
      refine HD.out.mono ?_
      rintro e w2 ⟨st, rfl, -, hb2⟩
      have hz2 : Zone L H wr w2 := Zone.of_below hb2
      obtain ⟨⟨t0, c0⟩, cn, cf⟩ := HCJ.out
      obtain ⟨u0, d0⟩ := hz2.str _ _ c0
      obtain ⟨t1, c1⟩ := cn 1 (by omega) (by omega)
      obtain ⟨u1, d1⟩ := hz2.num _ _ c1
      obtain ⟨t2, c2⟩ := cn 2 (by omega) (by omega)
      obtain ⟨u2, d2⟩ := hz2.num _ _ c2
      obtain ⟨t3, c3⟩ := cn 3 (by omega) (by omega)
      obtain ⟨u3, d3⟩ := hz2.num _ _ c3
      have f0 : w2.frozen? ⟨g, j * 4, none⟩ = false := (hz2.fz ⟨g, j * 4, none⟩ (show g < wr.heap.size from cell_lt c0)).trans (cf 0)
      have f1 : w2.frozen? ⟨g, j * 4 + 1, none⟩ = false := (hz2.fz ⟨g, j * 4 + 1, none⟩ (show g < wr.heap.size from cell_lt c0)).trans (cf 1)
      have f2 : w2.frozen? ⟨g, j * 4 + 2, none⟩ = false := (hz2.fz ⟨g, j * 4 + 2, none⟩ (show g < wr.heap.size from cell_lt c0)).trans (cf 2)
      have f3 : w2.frozen? ⟨g, j * 4 + 3, none⟩ = false := (hz2.fz ⟨g, j * 4 + 3, none⟩ (show g < wr.heap.size from cell_lt c0)).trans (cf 3)
      have HZ2 := Lib.hid (HZ.out.trans hz2)
      have z1 : Zone L H w2 (w2.setCell ⟨g, j * 4, none⟩ (.string st)) := Zone.setStr st d0 g1 g2
      obtain ⟨y1, e1⟩ := z1.num _ _ d1
      have z2 : Zone L H w2 ((w2.setCell ⟨g, j * 4, none⟩ (.string st)).setCell ⟨g, j * 4 + 1, none⟩ (.int .i64 (k + 4 * j + 1))) := z1.trans (Zone.setInt _ e1 g1 g2)
      obtain ⟨y2, e2⟩ := z2.num _ _ d2
      have z3 : Zone L H w2 (((w2.setCell ⟨g, j * 4, none⟩ (.string st)).setCell ⟨g, j * 4 + 1, none⟩ (.int .i64 (k + 4 * j + 1))).setCell ⟨g, j * 4 + 2, none⟩ (.int .i64 (k + 4 * j + 1 + 1))) := z2.trans (Zone.setInt _ e2 g1 g2)
      obtain ⟨y3, e3⟩ := z3.num _ _ d3
      have z4 : Zone L H w2 ((((w2.setCell ⟨g, j * 4, none⟩ (.string st)).setCell ⟨g, j * 4 + 1, none⟩ (.int .i64 (k + 4 * j + 1))).setCell ⟨g, j * 4 + 2, none⟩ (.int .i64 (k + 4 * j + 1 + 1))).setCell ⟨g, j * 4 + 3, none⟩ (.int .i64 (k + 4 * j + 1 + 1 + 1))) := z3.trans (Zone.setInt _ e3 g1 g2)
      have HZE := Lib.hid (HZ2.out.trans z4)
      clear hz2 cn cf HCJ z1 z2 z3 z4 e1 e2 e3 c0 c1 c2 c3
      go_wp2
      go_roundw
      case rel => exact ⟨j + 1, by omega, by go_num, by go_num, HZE.out⟩
      case measure => simp [intOf]; omega
    · obtain rfl : j = n := by omega
      clear hz
      go_wp2
      go_ret
      exact ⟨rfl, HZ.out⟩
theorem markMine_z (L H : Nat) (J : Int) (A : Option Addr) (c n : Nat) (k : Int) (w : World) (hn : n ≤ 1048576) (h1 : 1 ≤ k) (h2 : k ≤ 1099500000000) (hH : H ≤ w.heap.size) (hw : WRec 7 L H w A n) :
    Calls Tryz.prog 19 #[.agg #[.int .i64 J, .slice A n c], .int .i64 k] w fun e w' => e = .returned (.int .i64 (k + 7 * n)) ∧ Zone L H w w' := by
  have hbe : Below w.heap.size w (w.alloc (.cells #[.int .i64 J, .slice A n c] 33)) := by go_grown
  have HS := Lib.hid (markAirwayS_z L H A c n k _ hn h1 h2 (hw.below (hbe.mono hH)))
  have hz0 : Zone L H w (w.alloc (.cells #[.int .i64 J, .slice A n c] 33)) := Zone.of_below hbe
  clear hw hbe
  go_enter Tryz.func19, Tryz.ntmps19
  go_wp2_with fail
  refine HS.out.mono ?_
  rintro e w1 ⟨rfl, hz⟩
  have hgg := hz0.trans hz
  clear hz hz0
  go_wp2
  go_ret
  exact ⟨rfl, hgg⟩
theorem Bx.zone {L H g : Nat} {w w' : World} {vs : List Value} (h : Bx w g vs) (z : Zone L H w w') (ho : g < L ∨ H ≤ g) (hlt : g < w.heap.size) : Bx w' g vs := fun j hj =>
  ⟨(World.cell?_of_block (a := ⟨g, j, none⟩) (z.block g hlt ho)).trans (h j hj).1, (World.frozen?_of_block (a := ⟨g, j, none⟩) (z.block g hlt ho)).trans (h j hj).2⟩
theorem Bx.kept {g : Nat} {w w' : World} {vs : List Value} {row : Option Nat} (h : Bx w g vs) (hg : w.grownBy w' row) (hne : some g ≠ row) (hlt : g < w.heap.size) : Bx w' g vs := fun j hj =>
  ⟨(World.cell?_of_block (a := ⟨g, j, none⟩) (hg.block g hlt hne)).trans (h j hj).1, (World.frozen?_of_block (a := ⟨g, j, none⟩) (hg.block g hlt hne)).trans (h j hj).2⟩
theorem OwnB.zone {base L H a b : Nat} {w w' : World} {v : Value} {xs : List Bool} (h : OwnB base w v xs) (z : Zone L H w w') (u : ∀ g, v.ownBlock = some g → a ≤ g ∧ g < b) (hs : b ≤ L ∨ H ≤ a) : OwnB base w' v xs := by
  unfold OwnB at h ⊢
  refine ⟨h.1, ?_⟩
  rcases h.2 with hn | ⟨g, cap, cur, e1, e2, e3, rest⟩
  · exact .inl hn
  · have hl := World.ownsRow.lt h g (by rw [e1]; rfl)
    have hu := u g (by rw [e1]; rfl)
    exact .inr ⟨g, cap, cur, e1, e2, (z.block g hl.2 (by omega)).trans e3, rest⟩
/-- A plant's copy that may be written. -/
def PlantW (L H : Nat) (w : World) (v : Value) (p : Pt) : Prop :=
  ∃ A1 c1 A2 c2 A3 c3 A4 c4 A5 c5, v = .agg #[.int .i64 p.J, .slice A1 p.xs.length c1, .slice A2 p.ds.length c2, .slice A3 p.ls.length c3, .slice A4 p.fs.length c4, .slice A5 p.dr.length c5, .int .i64 p.tol] ∧ WRec 7 L H w A1 p.xs.length ∧ WRec 4 L H w A2 p.ds.length ∧ WNest L H w A3 p.ls ∧ WFans L H w A4 p.fs ∧ WInts L H w A5 p.dr.length
theorem PlantW.below {L H : Nat} {w w' : World} {v : Value} {p : Pt} (h : PlantW L H w v p) (hb : Below H w w') : PlantW L H w' v p := by
  obtain ⟨A1, c1, A2, c2, A3, c3, A4, c4, A5, c5, e, h1, h2, h3, h4, h5⟩ := h
  exact ⟨A1, c1, A2, c2, A3, c3, A4, c4, A5, c5, e, h1.below hb, h2.below hb, h3.below hb, h4.below hb, h5.below hb⟩
theorem WFans.more {L L' H H' : Nat} {w : World} {A : Option Addr} {xs : List Fa} (h : WFans L H w A xs) (hL : L' ≤ L) (hH : H ≤ H') : WFans L' H' w A xs := by
  intro hn
  obtain ⟨b, e, h1, h2, hc⟩ := h hn
  refine ⟨b, e, by omega, by omega, fun k hk => ?_⟩
  obtain ⟨a1, a2, f0, f1, A', c, k2, k3⟩ := hc k hk
  exact ⟨a1, a2, f0, f1, A', c, k2, k3.more hL hH⟩
theorem WFans.zone {L H : Nat} {w w' : World} {A : Option Addr} {xs : List Fa} (h : WFans L H w A xs) (z : Zone L H w w') : WFans L H w' A xs := by
  intro hn
  obtain ⟨b, e, h1, h2, hc⟩ := h hn
  exact ⟨b, e, h1, h2, fun k hk => (hc k hk).zone z⟩
set_option maxRecDepth 100000 in
set_option maxHeartbeats 3200000 in
theorem toPlant_w (v : Value) (p : Pt) (w : World) (hl : PtLen p) (hI : PlantIs w.heap.size w v p) :
    Calls Tryz.prog 25 #[v] w fun e w' => ∃ v', e = .returned v' ∧ PlantIs w'.heap.size w' v' p ∧ CapOk v' ∧ PlantW w.heap.size w'.heap.size w' v' p ∧ Below w.heap.size w w' := by
  obtain ⟨J, xs, ds, ls, fs, dr, tol⟩ := p
  obtain ⟨A1, k1, A2, k2, A3, k3, A4, k4, A5, k5, rfl, i1, i2, i3, i4, i5⟩ := hI
  obtain ⟨l1, l2, l3, l3', l4, l4', l5⟩ := hl
  dsimp only at *
  have be0 : Below w.heap.size w (((w.alloc (.cells #[.int .i64 J, .slice A1 xs.length k1, .slice A2 ds.length k2, .slice A3 ls.length k3, .slice A4 fs.length k4, .slice A5 dr.length k5, .int .i64 tol] 50)).alloc (.cells #[.int .i64 0, .slice none 0 0, .slice none 0 0, .slice none 0 0, .slice none 0 0, .slice none 0 0, .int .i64 0] 57)).alloc (.cells #[.int .i64 0, .slice none 0 0, .slice none 0 0, .slice none 0 0, .slice none 0 0, .slice none 0 0, .int .i64 0] 57)) := by go_grown
  have HP0 : Bx (((w.alloc (.cells #[.int .i64 J, .slice A1 xs.length k1, .slice A2 ds.length k2, .slice A3 ls.length k3, .slice A4 fs.length k4, .slice A5 dr.length k5, .int .i64 tol] 50)).alloc (.cells #[.int .i64 0, .slice none 0 0, .slice none 0 0, .slice none 0 0, .slice none 0 0, .slice none 0 0, .int .i64 0] 57)).alloc (.cells #[.int .i64 0, .slice none 0 0, .slice none 0 0, .slice none 0 0, .slice none 0 0, .slice none 0 0, .int .i64 0] 57)) w.heap.size [.int .i64 J, .slice A1 xs.length k1, .slice A2 ds.length k2, .slice A3 ls.length k3, .slice A4 fs.length k4, .slice A5 dr.length k5, .int .i64 tol] := bx7_of (by go_simp) (by go_simp) (by go_simp) (by go_simp) (by go_simp) (by go_simp) (by go_simp) (fun j => by go_simp)
  have HZ0 : Bx (((w.alloc (.cells #[.int .i64 J, .slice A1 xs.length k1, .slice A2 ds.length k2, .slice A3 ls.length k3, .slice A4 fs.length k4, .slice A5 dr.length k5, .int .i64 tol] 50)).alloc (.cells #[.int .i64 0, .slice none 0 0, .slice none 0 0, .slice none 0 0, .slice none 0 0, .slice none 0 0, .int .i64 0] 57)).alloc (.cells #[.int .i64 0, .slice none 0 0, .slice none 0 0, .slice none 0 0, .slice none 0 0, .slice none 0 0, .int .i64 0] 57)) (w.heap.size + 1) [.int .i64 0, .slice none 0 0, .slice none 0 0, .slice none 0 0, .slice none 0 0, .slice none 0 0, .int .i64 0] := bx7_of (by go_simp) (by go_simp) (by go_simp) (by go_simp) (by go_simp) (by go_simp) (by go_simp) (fun j => by go_simp)
  have HO0 : Bx (((w.alloc (.cells #[.int .i64 J, .slice A1 xs.length k1, .slice A2 ds.length k2, .slice A3 ls.length k3, .slice A4 fs.length k4, .slice A5 dr.length k5, .int .i64 tol] 50)).alloc (.cells #[.int .i64 0, .slice none 0 0, .slice none 0 0, .slice none 0 0, .slice none 0 0, .slice none 0 0, .int .i64 0] 57)).alloc (.cells #[.int .i64 0, .slice none 0 0, .slice none 0 0, .slice none 0 0, .slice none 0 0, .slice none 0 0, .int .i64 0] 57)) (w.heap.size + 1 + 1) [.int .i64 0, .slice none 0 0, .slice none 0 0, .slice none 0 0, .slice none 0 0, .slice none 0 0, .int .i64 0] := bx7_of (by go_simp) (by go_simp) (by go_simp) (by go_simp) (by go_simp) (by go_simp) (by go_simp) (fun j => by go_simp)
  have hs0 : ((((w.alloc (.cells #[.int .i64 J, .slice A1 xs.length k1, .slice A2 ds.length k2, .slice A3 ls.length k3, .slice A4 fs.length k4, .slice A5 dr.length k5, .int .i64 tol] 50)).alloc (.cells #[.int .i64 0, .slice none 0 0, .slice none 0 0, .slice none 0 0, .slice none 0 0, .slice none 0 0, .int .i64 0] 57)).alloc (.cells #[.int .i64 0, .slice none 0 0, .slice none 0 0, .slice none 0 0, .slice none 0 0, .slice none 0 0, .int .i64 0] 57))).heap.size = w.heap.size + 1 + 1 + 1 := by simp
  have C1 := Lib.hid (fun W (hb : Below w.heap.size w W) => toMine_any J A1 k1 xs w.heap.size W l1 (i1.below hb) hb.size)
  have C2 := Lib.hid (fun W (hb : Below w.heap.size w W) => toDoorS_any A2 k2 ds w.heap.size W l2 (i2.below hb) hb.size)
  have C3 := Lib.hid (fun W (hb : Below w.heap.size w W) => toInt64SS_w A3 k3 ls w.heap.size W l3 l3' (i3.below hb) hb.size)
  have C4 := Lib.hid (fun W (hb : Below w.heap.size w W) => toFanS_w A4 k4 fs w.heap.size W l4 l4' (i4.below hb) hb.size)
  have C5 := Lib.hid (fun W (hb : Below w.heap.size w W) => toInt64S_any A5 k5 dr w.heap.size W l5 (i5.below hb) hb.size)
  clear i1 i2 i3 i4 i5 l1 l2 l3 l3' l4 l4' l5
  have HP0 := Lib.hid HP0
  have HZ0 := Lib.hid HZ0
  have HO0 := Lib.hid HO0
  go_enter Tryz.func25, Tryz.ntmps25
  go_wp2_with fail
  generalize (((w.alloc (.cells #[.int .i64 J, .slice A1 xs.length k1, .slice A2 ds.length k2, .slice A3 ls.length k3, .slice A4 fs.length k4, .slice A5 dr.length k5, .int .i64 tol] 50)).alloc (.cells #[.int .i64 0, .slice none 0 0, .slice none 0 0, .slice none 0 0, .slice none 0 0, .slice none 0 0, .int .i64 0] 57)).alloc (.cells #[.int .i64 0, .slice none 0 0, .slice none 0 0, .slice none 0 0, .slice none 0 0, .slice none 0 0, .int .i64 0] 57)) = W0 at *
  have szg : (w.heap.size + 1 + 1) < W0.heap.size := by omega
  refine (C1.out _ be0).mono ?_
  rintro e w1 ⟨v1, rfl, o1, hb1⟩
  obtain ⟨B1, m1, rfl, -, -⟩ := o1.slice encA_len
  have hz1 := hb1.size
  have bw1 : Below w.heap.size w w1 := be0.trans (hb1.mono be0.size)
  have hp := HP0.out.below hb1 (by omega)
  have ho := HO0.out.below hb1 (by omega)
  have hz := HZ0.out.below hb1 (by omega)
  obtain ⟨⟨p0, p1, p2, p3, p4, p5, p6⟩, ⟨pf0, pf1, pf2, pf3, pf4, pf5, pf6⟩⟩ := bx7 hp
  obtain ⟨⟨q0, q1, q2, q3, q4, q5, q6⟩, ⟨qf0, qf1, qf2, qf3, qf4, qf5, qf6⟩⟩ := bx7 ho
  have HO1 : Hid (Bx ((w1.setCell ⟨w.heap.size + 1 + 1, 0, none⟩ (.int .i64 J)).setCell ⟨w.heap.size + 1 + 1, 1, none⟩ (.slice B1 xs.length m1)) (w.heap.size + 1 + 1) [.int .i64 J, .slice B1 xs.length m1, .slice none 0 0, .slice none 0 0, .slice none 0 0, .slice none 0 0, .int .i64 0]) := Lib.hid ((ho.set 0 (.int .i64 J) (by simp)).set 1 (.slice B1 xs.length m1) (by simp))
  have HP1 : Hid (Bx ((w1.setCell ⟨w.heap.size + 1 + 1, 0, none⟩ (.int .i64 J)).setCell ⟨w.heap.size + 1 + 1, 1, none⟩ (.slice B1 xs.length m1)) w.heap.size [.int .i64 J, .slice A1 xs.length k1, .slice A2 ds.length k2, .slice A3 ls.length k3, .slice A4 fs.length k4, .slice A5 dr.length k5, .int .i64 tol]) := Lib.hid ((hp.other (p := ⟨(w.heap.size + 1 + 1), 0, none⟩) (.int .i64 J) (by simp <;> omega)).other (p := ⟨(w.heap.size + 1 + 1), 1, none⟩) (.slice B1 xs.length m1) (by simp <;> omega))
  have HZ1 : Hid (Bx ((w1.setCell ⟨w.heap.size + 1 + 1, 0, none⟩ (.int .i64 J)).setCell ⟨w.heap.size + 1 + 1, 1, none⟩ (.slice B1 xs.length m1)) (w.heap.size + 1) [.int .i64 0, .slice none 0 0, .slice none 0 0, .slice none 0 0, .slice none 0 0, .slice none 0 0, .int .i64 0]) := Lib.hid ((hz.other (p := ⟨(w.heap.size + 1 + 1), 0, none⟩) (.int .i64 J) (by simp)).other (p := ⟨(w.heap.size + 1 + 1), 1, none⟩) (.slice B1 xs.length m1) (by simp))
  have be1 : Below w.heap.size w ((w1.setCell ⟨w.heap.size + 1 + 1, 0, none⟩ (.int .i64 J)).setCell ⟨w.heap.size + 1 + 1, 1, none⟩ (.slice B1 xs.length m1)) := ((bw1.setCell (p := ⟨(w.heap.size + 1 + 1), 0, none⟩) (by simp <;> omega) (.int .i64 J)).setCell (p := ⟨(w.heap.size + 1 + 1), 1, none⟩) (by simp <;> omega) (.slice B1 xs.length m1))
  have hk1 : Kept ((w.heap.size + 1 + 1) + 1) w1 ((w1.setCell ⟨w.heap.size + 1 + 1, 0, none⟩ (.int .i64 J)).setCell ⟨w.heap.size + 1 + 1, 1, none⟩ (.slice B1 xs.length m1)) := Kept.setCell ((Kept.refl _ _).setCell (p := ⟨(w.heap.size + 1 + 1), 0, none⟩) (by simp)) (p := ⟨(w.heap.size + 1 + 1), 1, none⟩) (by simp)
  have hsz1 : (((w1.setCell ⟨w.heap.size + 1 + 1, 0, none⟩ (.int .i64 J)).setCell ⟨w.heap.size + 1 + 1, 1, none⟩ (.slice B1 xs.length m1))).heap.size = w1.heap.size := by simp
  have szg1 : (w.heap.size + 1 + 1) < (((w1.setCell ⟨w.heap.size + 1 + 1, 0, none⟩ (.int .i64 J)).setCell ⟨w.heap.size + 1 + 1, 1, none⟩ (.slice B1 xs.length m1))).heap.size := by omega
  have HSZ1 := Lib.hid hsz1
  clear hsz1
  have HK1 := Lib.hid hk1
  have HW1 := Lib.hid o1
  clear hp ho hz hk1 o1 HP0 HO0 HZ0
  go_wp2_with fail
  generalize ((w1.setCell ⟨w.heap.size + 1 + 1, 0, none⟩ (.int .i64 J)).setCell ⟨w.heap.size + 1 + 1, 1, none⟩ (.slice B1 xs.length m1)) = W1 at *
  clear p0 pf0 q0 qf0 p1 pf1 q1 qf1 p2 pf2 q2 qf2 p3 pf3 q3 qf3 p4 pf4 q4 qf4 p5 pf5 q5 qf5 p6 pf6 q6 qf6
  refine (C2.out _ be1).mono ?_
  rintro e w2 ⟨rfl, o2, hb2⟩
  have hz2 := hb2.size
  have bw2 : Below w.heap.size w w2 := be1.trans (hb2.mono be1.size)
  have hp := HP1.out.below hb2 (by omega)
  have ho := HO1.out.below hb2 (by omega)
  have hz := HZ1.out.below hb2 (by omega)
  obtain ⟨⟨p0, p1, p2, p3, p4, p5, p6⟩, ⟨pf0, pf1, pf2, pf3, pf4, pf5, pf6⟩⟩ := bx7 hp
  obtain ⟨⟨q0, q1, q2, q3, q4, q5, q6⟩, ⟨qf0, qf1, qf2, qf3, qf4, qf5, qf6⟩⟩ := bx7 ho
  have HO2 : Hid (Bx (w2.setCell ⟨w.heap.size + 1 + 1, 2, none⟩ (.slice (some ⟨W1.heap.size, 0, none⟩) ds.length ds.length)) (w.heap.size + 1 + 1) [.int .i64 J, .slice B1 xs.length m1, .slice (some ⟨W1.heap.size, 0, none⟩) ds.length ds.length, .slice none 0 0, .slice none 0 0, .slice none 0 0, .int .i64 0]) := Lib.hid (ho.set 2 (.slice (some ⟨W1.heap.size, 0, none⟩) ds.length ds.length) (by simp))
  have HP2 : Hid (Bx (w2.setCell ⟨w.heap.size + 1 + 1, 2, none⟩ (.slice (some ⟨W1.heap.size, 0, none⟩) ds.length ds.length)) w.heap.size [.int .i64 J, .slice A1 xs.length k1, .slice A2 ds.length k2, .slice A3 ls.length k3, .slice A4 fs.length k4, .slice A5 dr.length k5, .int .i64 tol]) := Lib.hid (hp.other (p := ⟨(w.heap.size + 1 + 1), 2, none⟩) (.slice (some ⟨W1.heap.size, 0, none⟩) ds.length ds.length) (by simp <;> omega))
  have HZ2 : Hid (Bx (w2.setCell ⟨w.heap.size + 1 + 1, 2, none⟩ (.slice (some ⟨W1.heap.size, 0, none⟩) ds.length ds.length)) (w.heap.size + 1) [.int .i64 0, .slice none 0 0, .slice none 0 0, .slice none 0 0, .slice none 0 0, .slice none 0 0, .int .i64 0]) := Lib.hid (hz.other (p := ⟨(w.heap.size + 1 + 1), 2, none⟩) (.slice (some ⟨W1.heap.size, 0, none⟩) ds.length ds.length) (by simp))
  have be2 : Below w.heap.size w (w2.setCell ⟨w.heap.size + 1 + 1, 2, none⟩ (.slice (some ⟨W1.heap.size, 0, none⟩) ds.length ds.length)) := (bw2.setCell (p := ⟨(w.heap.size + 1 + 1), 2, none⟩) (by simp <;> omega) (.slice (some ⟨W1.heap.size, 0, none⟩) ds.length ds.length))
  have hk2 : Kept ((w.heap.size + 1 + 1) + 1) w2 (w2.setCell ⟨w.heap.size + 1 + 1, 2, none⟩ (.slice (some ⟨W1.heap.size, 0, none⟩) ds.length ds.length)) := (Kept.refl _ _).setCell (p := ⟨(w.heap.size + 1 + 1), 2, none⟩) (by simp)
  have hsz2 : ((w2.setCell ⟨w.heap.size + 1 + 1, 2, none⟩ (.slice (some ⟨W1.heap.size, 0, none⟩) ds.length ds.length))).heap.size = w2.heap.size := by simp
  have szg2 : (w.heap.size + 1 + 1) < ((w2.setCell ⟨w.heap.size + 1 + 1, 2, none⟩ (.slice (some ⟨W1.heap.size, 0, none⟩) ds.length ds.length))).heap.size := by omega
  have HSZ2 := Lib.hid hsz2
  clear hsz2
  have HK2 := Lib.hid hk2
  have HW2 := Lib.hid o2
  clear hp ho hz hk2 o2 HP1 HO1 HZ1
  go_wp2_with fail
  generalize (w2.setCell ⟨w.heap.size + 1 + 1, 2, none⟩ (.slice (some ⟨W1.heap.size, 0, none⟩) ds.length ds.length)) = W2 at *
  clear p0 pf0 q0 qf0 p1 pf1 q1 qf1 p2 pf2 q2 qf2 p3 pf3 q3 qf3 p4 pf4 q4 qf4 p5 pf5 q5 qf5 p6 pf6 q6 qf6
  refine (C3.out _ be2).mono ?_
  rintro e w3 ⟨rfl, o3, x3, hb3⟩
  have hz3 := hb3.size
  have bw3 : Below w.heap.size w w3 := be2.trans (hb3.mono be2.size)
  have hp := HP2.out.below hb3 (by omega)
  have ho := HO2.out.below hb3 (by omega)
  have hz := HZ2.out.below hb3 (by omega)
  obtain ⟨⟨p0, p1, p2, p3, p4, p5, p6⟩, ⟨pf0, pf1, pf2, pf3, pf4, pf5, pf6⟩⟩ := bx7 hp
  obtain ⟨⟨q0, q1, q2, q3, q4, q5, q6⟩, ⟨qf0, qf1, qf2, qf3, qf4, qf5, qf6⟩⟩ := bx7 ho
  have HO3 : Hid (Bx (w3.setCell ⟨w.heap.size + 1 + 1, 3, none⟩ (.slice (some ⟨W2.heap.size, 0, none⟩) ls.length ls.length)) (w.heap.size + 1 + 1) [.int .i64 J, .slice B1 xs.length m1, .slice (some ⟨W1.heap.size, 0, none⟩) ds.length ds.length, .slice (some ⟨W2.heap.size, 0, none⟩) ls.length ls.length, .slice none 0 0, .slice none 0 0, .int .i64 0]) := Lib.hid (ho.set 3 (.slice (some ⟨W2.heap.size, 0, none⟩) ls.length ls.length) (by simp))
  have HP3 : Hid (Bx (w3.setCell ⟨w.heap.size + 1 + 1, 3, none⟩ (.slice (some ⟨W2.heap.size, 0, none⟩) ls.length ls.length)) w.heap.size [.int .i64 J, .slice A1 xs.length k1, .slice A2 ds.length k2, .slice A3 ls.length k3, .slice A4 fs.length k4, .slice A5 dr.length k5, .int .i64 tol]) := Lib.hid (hp.other (p := ⟨(w.heap.size + 1 + 1), 3, none⟩) (.slice (some ⟨W2.heap.size, 0, none⟩) ls.length ls.length) (by simp <;> omega))
  have HZ3 : Hid (Bx (w3.setCell ⟨w.heap.size + 1 + 1, 3, none⟩ (.slice (some ⟨W2.heap.size, 0, none⟩) ls.length ls.length)) (w.heap.size + 1) [.int .i64 0, .slice none 0 0, .slice none 0 0, .slice none 0 0, .slice none 0 0, .slice none 0 0, .int .i64 0]) := Lib.hid (hz.other (p := ⟨(w.heap.size + 1 + 1), 3, none⟩) (.slice (some ⟨W2.heap.size, 0, none⟩) ls.length ls.length) (by simp))
  have be3 : Below w.heap.size w (w3.setCell ⟨w.heap.size + 1 + 1, 3, none⟩ (.slice (some ⟨W2.heap.size, 0, none⟩) ls.length ls.length)) := (bw3.setCell (p := ⟨(w.heap.size + 1 + 1), 3, none⟩) (by simp <;> omega) (.slice (some ⟨W2.heap.size, 0, none⟩) ls.length ls.length))
  have hk3 : Kept ((w.heap.size + 1 + 1) + 1) w3 (w3.setCell ⟨w.heap.size + 1 + 1, 3, none⟩ (.slice (some ⟨W2.heap.size, 0, none⟩) ls.length ls.length)) := (Kept.refl _ _).setCell (p := ⟨(w.heap.size + 1 + 1), 3, none⟩) (by simp)
  have hsz3 : ((w3.setCell ⟨w.heap.size + 1 + 1, 3, none⟩ (.slice (some ⟨W2.heap.size, 0, none⟩) ls.length ls.length))).heap.size = w3.heap.size := by simp
  have szg3 : (w.heap.size + 1 + 1) < ((w3.setCell ⟨w.heap.size + 1 + 1, 3, none⟩ (.slice (some ⟨W2.heap.size, 0, none⟩) ls.length ls.length))).heap.size := by omega
  have HSZ3 := Lib.hid hsz3
  clear hsz3
  have HK3 := Lib.hid hk3
  have HW3 := Lib.hid o3
  have HX3 := Lib.hid x3
  clear hp ho hz hk3 o3 x3 HP2 HO2 HZ2
  go_wp2_with fail
  generalize (w3.setCell ⟨w.heap.size + 1 + 1, 3, none⟩ (.slice (some ⟨W2.heap.size, 0, none⟩) ls.length ls.length)) = W3 at *
  clear p0 pf0 q0 qf0 p1 pf1 q1 qf1 p2 pf2 q2 qf2 p3 pf3 q3 qf3 p4 pf4 q4 qf4 p5 pf5 q5 qf5 p6 pf6 q6 qf6
  refine (C4.out _ be3).mono ?_
  rintro e w4 ⟨rfl, ⟨o4, x4⟩, hb4⟩
  have hz4 := hb4.size
  have bw4 : Below w.heap.size w w4 := be3.trans (hb4.mono be3.size)
  have hp := HP3.out.below hb4 (by omega)
  have ho := HO3.out.below hb4 (by omega)
  have hz := HZ3.out.below hb4 (by omega)
  obtain ⟨⟨p0, p1, p2, p3, p4, p5, p6⟩, ⟨pf0, pf1, pf2, pf3, pf4, pf5, pf6⟩⟩ := bx7 hp
  obtain ⟨⟨q0, q1, q2, q3, q4, q5, q6⟩, ⟨qf0, qf1, qf2, qf3, qf4, qf5, qf6⟩⟩ := bx7 ho
  have HO4 : Hid (Bx (w4.setCell ⟨w.heap.size + 1 + 1, 4, none⟩ (.slice (some ⟨W3.heap.size, 0, none⟩) fs.length fs.length)) (w.heap.size + 1 + 1) [.int .i64 J, .slice B1 xs.length m1, .slice (some ⟨W1.heap.size, 0, none⟩) ds.length ds.length, .slice (some ⟨W2.heap.size, 0, none⟩) ls.length ls.length, .slice (some ⟨W3.heap.size, 0, none⟩) fs.length fs.length, .slice none 0 0, .int .i64 0]) := Lib.hid (ho.set 4 (.slice (some ⟨W3.heap.size, 0, none⟩) fs.length fs.length) (by simp))
  have HP4 : Hid (Bx (w4.setCell ⟨w.heap.size + 1 + 1, 4, none⟩ (.slice (some ⟨W3.heap.size, 0, none⟩) fs.length fs.length)) w.heap.size [.int .i64 J, .slice A1 xs.length k1, .slice A2 ds.length k2, .slice A3 ls.length k3, .slice A4 fs.length k4, .slice A5 dr.length k5, .int .i64 tol]) := Lib.hid (hp.other (p := ⟨(w.heap.size + 1 + 1), 4, none⟩) (.slice (some ⟨W3.heap.size, 0, none⟩) fs.length fs.length) (by simp <;> omega))
  have HZ4 : Hid (Bx (w4.setCell ⟨w.heap.size + 1 + 1, 4, none⟩ (.slice (some ⟨W3.heap.size, 0, none⟩) fs.length fs.length)) (w.heap.size + 1) [.int .i64 0, .slice none 0 0, .slice none 0 0, .slice none 0 0, .slice none 0 0, .slice none 0 0, .int .i64 0]) := Lib.hid (hz.other (p := ⟨(w.heap.size + 1 + 1), 4, none⟩) (.slice (some ⟨W3.heap.size, 0, none⟩) fs.length fs.length) (by simp))
  have be4 : Below w.heap.size w (w4.setCell ⟨w.heap.size + 1 + 1, 4, none⟩ (.slice (some ⟨W3.heap.size, 0, none⟩) fs.length fs.length)) := (bw4.setCell (p := ⟨(w.heap.size + 1 + 1), 4, none⟩) (by simp <;> omega) (.slice (some ⟨W3.heap.size, 0, none⟩) fs.length fs.length))
  have hk4 : Kept ((w.heap.size + 1 + 1) + 1) w4 (w4.setCell ⟨w.heap.size + 1 + 1, 4, none⟩ (.slice (some ⟨W3.heap.size, 0, none⟩) fs.length fs.length)) := (Kept.refl _ _).setCell (p := ⟨(w.heap.size + 1 + 1), 4, none⟩) (by simp)
  have hsz4 : ((w4.setCell ⟨w.heap.size + 1 + 1, 4, none⟩ (.slice (some ⟨W3.heap.size, 0, none⟩) fs.length fs.length))).heap.size = w4.heap.size := by simp
  have szg4 : (w.heap.size + 1 + 1) < ((w4.setCell ⟨w.heap.size + 1 + 1, 4, none⟩ (.slice (some ⟨W3.heap.size, 0, none⟩) fs.length fs.length))).heap.size := by omega
  have HSZ4 := Lib.hid hsz4
  clear hsz4
  have HK4 := Lib.hid hk4
  have HW4 := Lib.hid o4
  have HX4 := Lib.hid x4
  clear hp ho hz hk4 o4 x4 HP3 HO3 HZ3
  go_wp2_with fail
  generalize (w4.setCell ⟨w.heap.size + 1 + 1, 4, none⟩ (.slice (some ⟨W3.heap.size, 0, none⟩) fs.length fs.length)) = W4 at *
  clear p0 pf0 q0 qf0 p1 pf1 q1 qf1 p2 pf2 q2 qf2 p3 pf3 q3 qf3 p4 pf4 q4 qf4 p5 pf5 q5 qf5 p6 pf6 q6 qf6
  refine (C5.out _ be4).mono ?_
  rintro e w5 ⟨rfl, o5, hb5⟩
  have hz5 := hb5.size
  have bw5 : Below w.heap.size w w5 := be4.trans (hb5.mono be4.size)
  have hp := HP4.out.below hb5 (by omega)
  have ho := HO4.out.below hb5 (by omega)
  have hz := HZ4.out.below hb5 (by omega)
  obtain ⟨⟨p0, p1, p2, p3, p4, p5, p6⟩, ⟨pf0, pf1, pf2, pf3, pf4, pf5, pf6⟩⟩ := bx7 hp
  obtain ⟨⟨q0, q1, q2, q3, q4, q5, q6⟩, ⟨qf0, qf1, qf2, qf3, qf4, qf5, qf6⟩⟩ := bx7 ho
  have HO5 : Hid (Bx ((w5.setCell ⟨w.heap.size + 1 + 1, 5, none⟩ (.slice (some ⟨W4.heap.size, 0, none⟩) dr.length dr.length)).setCell ⟨w.heap.size + 1 + 1, 6, none⟩ (.int .i64 tol)) (w.heap.size + 1 + 1) [.int .i64 J, .slice B1 xs.length m1, .slice (some ⟨W1.heap.size, 0, none⟩) ds.length ds.length, .slice (some ⟨W2.heap.size, 0, none⟩) ls.length ls.length, .slice (some ⟨W3.heap.size, 0, none⟩) fs.length fs.length, .slice (some ⟨W4.heap.size, 0, none⟩) dr.length dr.length, .int .i64 tol]) := Lib.hid ((ho.set 5 (.slice (some ⟨W4.heap.size, 0, none⟩) dr.length dr.length) (by simp)).set 6 (.int .i64 tol) (by simp))
  have HP5 : Hid (Bx ((w5.setCell ⟨w.heap.size + 1 + 1, 5, none⟩ (.slice (some ⟨W4.heap.size, 0, none⟩) dr.length dr.length)).setCell ⟨w.heap.size + 1 + 1, 6, none⟩ (.int .i64 tol)) w.heap.size [.int .i64 J, .slice A1 xs.length k1, .slice A2 ds.length k2, .slice A3 ls.length k3, .slice A4 fs.length k4, .slice A5 dr.length k5, .int .i64 tol]) := Lib.hid ((hp.other (p := ⟨(w.heap.size + 1 + 1), 5, none⟩) (.slice (some ⟨W4.heap.size, 0, none⟩) dr.length dr.length) (by simp <;> omega)).other (p := ⟨(w.heap.size + 1 + 1), 6, none⟩) (.int .i64 tol) (by simp <;> omega))
  have HZ5 : Hid (Bx ((w5.setCell ⟨w.heap.size + 1 + 1, 5, none⟩ (.slice (some ⟨W4.heap.size, 0, none⟩) dr.length dr.length)).setCell ⟨w.heap.size + 1 + 1, 6, none⟩ (.int .i64 tol)) (w.heap.size + 1) [.int .i64 0, .slice none 0 0, .slice none 0 0, .slice none 0 0, .slice none 0 0, .slice none 0 0, .int .i64 0]) := Lib.hid ((hz.other (p := ⟨(w.heap.size + 1 + 1), 5, none⟩) (.slice (some ⟨W4.heap.size, 0, none⟩) dr.length dr.length) (by simp)).other (p := ⟨(w.heap.size + 1 + 1), 6, none⟩) (.int .i64 tol) (by simp))
  have be5 : Below w.heap.size w ((w5.setCell ⟨w.heap.size + 1 + 1, 5, none⟩ (.slice (some ⟨W4.heap.size, 0, none⟩) dr.length dr.length)).setCell ⟨w.heap.size + 1 + 1, 6, none⟩ (.int .i64 tol)) := ((bw5.setCell (p := ⟨(w.heap.size + 1 + 1), 5, none⟩) (by simp <;> omega) (.slice (some ⟨W4.heap.size, 0, none⟩) dr.length dr.length)).setCell (p := ⟨(w.heap.size + 1 + 1), 6, none⟩) (by simp <;> omega) (.int .i64 tol))
  have hk5 : Kept ((w.heap.size + 1 + 1) + 1) w5 ((w5.setCell ⟨w.heap.size + 1 + 1, 5, none⟩ (.slice (some ⟨W4.heap.size, 0, none⟩) dr.length dr.length)).setCell ⟨w.heap.size + 1 + 1, 6, none⟩ (.int .i64 tol)) := Kept.setCell ((Kept.refl _ _).setCell (p := ⟨(w.heap.size + 1 + 1), 5, none⟩) (by simp)) (p := ⟨(w.heap.size + 1 + 1), 6, none⟩) (by simp)
  have hsz5 : (((w5.setCell ⟨w.heap.size + 1 + 1, 5, none⟩ (.slice (some ⟨W4.heap.size, 0, none⟩) dr.length dr.length)).setCell ⟨w.heap.size + 1 + 1, 6, none⟩ (.int .i64 tol))).heap.size = w5.heap.size := by simp
  have szg5 : (w.heap.size + 1 + 1) < (((w5.setCell ⟨w.heap.size + 1 + 1, 5, none⟩ (.slice (some ⟨W4.heap.size, 0, none⟩) dr.length dr.length)).setCell ⟨w.heap.size + 1 + 1, 6, none⟩ (.int .i64 tol))).heap.size := by omega
  have HSZ5 := Lib.hid hsz5
  clear hsz5
  have HK5 := Lib.hid hk5
  have HW5 := Lib.hid o5
  obtain ⟨⟨z0, z1, z2, z3, z4, z5, z6⟩, ⟨zf0, zf1, zf2, zf3, zf4, zf5, zf6⟩⟩ := bx7 HZ5.out
  clear hp ho hz hk5 o5 HP4 HO4 HZ4
  go_wp2_with fail
  have hfz : Bx (((((((((w5.setCell ⟨w.heap.size + 1 + 1, 5, none⟩ (.slice (some ⟨W4.heap.size, 0, none⟩) dr.length dr.length)).setCell ⟨w.heap.size + 1 + 1, 6, none⟩ (.int .i64 tol)).setCell ⟨w.heap.size + 1, 0, none⟩ (.int .i64 J)).setCell ⟨w.heap.size + 1, 1, none⟩ (.slice B1 xs.length m1)).setCell ⟨w.heap.size + 1, 2, none⟩ (.slice (some ⟨W1.heap.size, 0, none⟩) ds.length ds.length)).setCell ⟨w.heap.size + 1, 3, none⟩ (.slice (some ⟨W2.heap.size, 0, none⟩) ls.length ls.length)).setCell ⟨w.heap.size + 1, 4, none⟩ (.slice (some ⟨W3.heap.size, 0, none⟩) fs.length fs.length)).setCell ⟨w.heap.size + 1, 5, none⟩ (.slice (some ⟨W4.heap.size, 0, none⟩) dr.length dr.length)).setCell ⟨w.heap.size + 1, 6, none⟩ (.int .i64 tol)) (w.heap.size + 1) [.int .i64 J, .slice B1 xs.length m1, .slice (some ⟨W1.heap.size, 0, none⟩) ds.length ds.length, .slice (some ⟨W2.heap.size, 0, none⟩) ls.length ls.length, .slice (some ⟨W3.heap.size, 0, none⟩) fs.length fs.length, .slice (some ⟨W4.heap.size, 0, none⟩) dr.length dr.length, .int .i64 tol] := (((((((HZ5.out.set 0 (.int .i64 J) (by simp)).set 1 (.slice B1 xs.length m1) (by simp)).set 2 (.slice (some ⟨W1.heap.size, 0, none⟩) ds.length ds.length) (by simp)).set 3 (.slice (some ⟨W2.heap.size, 0, none⟩) ls.length ls.length) (by simp)).set 4 (.slice (some ⟨W3.heap.size, 0, none⟩) fs.length fs.length) (by simp)).set 5 (.slice (some ⟨W4.heap.size, 0, none⟩) dr.length dr.length) (by simp)).set 6 (.int .i64 tol) (by simp))
  have hbf : Below w.heap.size w (((((((((w5.setCell ⟨w.heap.size + 1 + 1, 5, none⟩ (.slice (some ⟨W4.heap.size, 0, none⟩) dr.length dr.length)).setCell ⟨w.heap.size + 1 + 1, 6, none⟩ (.int .i64 tol)).setCell ⟨w.heap.size + 1, 0, none⟩ (.int .i64 J)).setCell ⟨w.heap.size + 1, 1, none⟩ (.slice B1 xs.length m1)).setCell ⟨w.heap.size + 1, 2, none⟩ (.slice (some ⟨W1.heap.size, 0, none⟩) ds.length ds.length)).setCell ⟨w.heap.size + 1, 3, none⟩ (.slice (some ⟨W2.heap.size, 0, none⟩) ls.length ls.length)).setCell ⟨w.heap.size + 1, 4, none⟩ (.slice (some ⟨W3.heap.size, 0, none⟩) fs.length fs.length)).setCell ⟨w.heap.size + 1, 5, none⟩ (.slice (some ⟨W4.heap.size, 0, none⟩) dr.length dr.length)).setCell ⟨w.heap.size + 1, 6, none⟩ (.int .i64 tol)) := (((((((be5.setCell (p := ⟨w.heap.size + 1, 0, none⟩) (by simp) (.int .i64 J)).setCell (p := ⟨w.heap.size + 1, 1, none⟩) (by simp) (.slice B1 xs.length m1)).setCell (p := ⟨w.heap.size + 1, 2, none⟩) (by simp) (.slice (some ⟨W1.heap.size, 0, none⟩) ds.length ds.length)).setCell (p := ⟨w.heap.size + 1, 3, none⟩) (by simp) (.slice (some ⟨W2.heap.size, 0, none⟩) ls.length ls.length)).setCell (p := ⟨w.heap.size + 1, 4, none⟩) (by simp) (.slice (some ⟨W3.heap.size, 0, none⟩) fs.length fs.length)).setCell (p := ⟨w.heap.size + 1, 5, none⟩) (by simp) (.slice (some ⟨W4.heap.size, 0, none⟩) dr.length dr.length)).setCell (p := ⟨w.heap.size + 1, 6, none⟩) (by simp) (.int .i64 tol))
  have hkf : Kept ((w.heap.size + 1 + 1) + 1) w5 (((((((((w5.setCell ⟨w.heap.size + 1 + 1, 5, none⟩ (.slice (some ⟨W4.heap.size, 0, none⟩) dr.length dr.length)).setCell ⟨w.heap.size + 1 + 1, 6, none⟩ (.int .i64 tol)).setCell ⟨w.heap.size + 1, 0, none⟩ (.int .i64 J)).setCell ⟨w.heap.size + 1, 1, none⟩ (.slice B1 xs.length m1)).setCell ⟨w.heap.size + 1, 2, none⟩ (.slice (some ⟨W1.heap.size, 0, none⟩) ds.length ds.length)).setCell ⟨w.heap.size + 1, 3, none⟩ (.slice (some ⟨W2.heap.size, 0, none⟩) ls.length ls.length)).setCell ⟨w.heap.size + 1, 4, none⟩ (.slice (some ⟨W3.heap.size, 0, none⟩) fs.length fs.length)).setCell ⟨w.heap.size + 1, 5, none⟩ (.slice (some ⟨W4.heap.size, 0, none⟩) dr.length dr.length)).setCell ⟨w.heap.size + 1, 6, none⟩ (.int .i64 tol)) := (Kept.setCell (Kept.setCell (Kept.setCell (Kept.setCell (Kept.setCell (Kept.setCell (Kept.setCell HK5.out (p := ⟨w.heap.size + 1, 0, none⟩) (v := .int .i64 J) (by simp)) (p := ⟨w.heap.size + 1, 1, none⟩) (v := (.slice B1 xs.length m1)) (by simp)) (p := ⟨w.heap.size + 1, 2, none⟩) (v := (.slice (some ⟨W1.heap.size, 0, none⟩) ds.length ds.length)) (by simp)) (p := ⟨w.heap.size + 1, 3, none⟩) (v := (.slice (some ⟨W2.heap.size, 0, none⟩) ls.length ls.length)) (by simp)) (p := ⟨w.heap.size + 1, 4, none⟩) (v := (.slice (some ⟨W3.heap.size, 0, none⟩) fs.length fs.length)) (by simp)) (p := ⟨w.heap.size + 1, 5, none⟩) (v := (.slice (some ⟨W4.heap.size, 0, none⟩) dr.length dr.length)) (by simp)) (p := ⟨w.heap.size + 1, 6, none⟩) (v := .int .i64 tol) (by simp))
  obtain ⟨⟨r0, r1, r2, r3, r4, r5, r6⟩, ⟨rf0, rf1, rf2, rf3, rf4, rf5, rf6⟩⟩ := bx7 hfz
  clear hfz
  generalize hFIN : (((((((((w5.setCell ⟨w.heap.size + 1 + 1, 5, none⟩ (.slice (some ⟨W4.heap.size, 0, none⟩) dr.length dr.length)).setCell ⟨w.heap.size + 1 + 1, 6, none⟩ (.int .i64 tol)).setCell ⟨w.heap.size + 1, 0, none⟩ (.int .i64 J)).setCell ⟨w.heap.size + 1, 1, none⟩ (.slice B1 xs.length m1)).setCell ⟨w.heap.size + 1, 2, none⟩ (.slice (some ⟨W1.heap.size, 0, none⟩) ds.length ds.length)).setCell ⟨w.heap.size + 1, 3, none⟩ (.slice (some ⟨W2.heap.size, 0, none⟩) ls.length ls.length)).setCell ⟨w.heap.size + 1, 4, none⟩ (.slice (some ⟨W3.heap.size, 0, none⟩) fs.length fs.length)).setCell ⟨w.heap.size + 1, 5, none⟩ (.slice (some ⟨W4.heap.size, 0, none⟩) dr.length dr.length)).setCell ⟨w.heap.size + 1, 6, none⟩ (.int .i64 tol)) = FIN at *
  have K4 := (HK4.out.below hb5).trans hkf
  have K3 := (HK3.out.below hb4).trans K4
  have K2 := (HK2.out.below hb3).trans K3
  have K1 := (HK1.out.below hb2).trans K2
  have R1 := OwnR.rows encA_len (own_kept HW1.out K1 (by omega))
  have R2 := OwnR.rows encDo_len (own_kept HW2.out K2 (by omega))
  have R3 := ((HW3.out.less (L' := (w.heap.size + 1 + 1) + 1) (by omega)).kept K3).nest
  have R4 := ((HW4.out.less (L' := (w.heap.size + 1 + 1) + 1) (by omega)).kept K4).fns
  have R5 := Own.ints (own_kept HW5.out hkf (by omega))
  have X1 : WRec 7 w.heap.size FIN.heap.size FIN B1 xs.length := (WRec.ofA (own_kept HW1.out K1 (by omega)) rfl).more (by omega) (Nat.le_refl _)
  have X2 : WRec 4 w.heap.size FIN.heap.size FIN (some ⟨W1.heap.size, 0, none⟩) ds.length := (WRec.ofD (own_kept HW2.out K2 (by omega)) rfl).more (by omega) (Nat.le_refl _)
  have X3 : WNest w.heap.size FIN.heap.size FIN (some ⟨W2.heap.size, 0, none⟩) ls := (HX3.out.same (fun k h1 h2 => K3.2 k (by omega) h2)).more (by omega) K3.1
  have X4 : WFans w.heap.size FIN.heap.size FIN (some ⟨W3.heap.size, 0, none⟩) fs := (HX4.out.same (fun k h1 h2 => K4.2 k (by omega) h2)).more (by omega) K4.1
  have X5 : WInts w.heap.size FIN.heap.size FIN (some ⟨W4.heap.size, 0, none⟩) dr.length := (Own.wints (own_kept HW5.out hkf (by omega)) rfl).more (by omega) (Nat.le_refl _)
  exact bodyPost_ret (v := .agg #[.int .i64 J, .slice B1 xs.length m1, .slice (some ⟨W1.heap.size, 0, none⟩) ds.length ds.length, .slice (some ⟨W2.heap.size, 0, none⟩) ls.length ls.length, .slice (some ⟨W3.heap.size, 0, none⟩) fs.length fs.length, .slice (some ⟨W4.heap.size, 0, none⟩) dr.length dr.length, .int .i64 tol]) (by simp [results, Tryz.results25, go_sem, r0, r1, r2, r3, r4, r5, r6]) rfl ⟨_, rfl, ⟨_, _, _, _, _, _, _, _, _, _, rfl, R1, R2, R3, R4, R5⟩, (fun _ _ _ _ _ _ _ _ _ e => by simp only [Value.agg.injEq, Array.mk.injEq, List.cons.injEq, Value.slice.injEq] at e; omega), ⟨_, _, _, _, _, _, _, _, _, _, rfl, X1, X2, X3, X4, X5⟩, hbf⟩
/-- How many marks a plant takes. -/
def cntP (p : Pt) : Int := 7 * (p.xs.length : Int) + 4 * (p.ds.length : Int) + totLen p.ls p.ls.length + cntF p.fs p.fs.length + (p.dr.length : Int)
theorem cntP_nonneg (p : Pt) : 0 ≤ cntP p := by
  have := totLen_nonneg p.ls p.ls.length
  have := cntF_nonneg p.fs p.fs.length
  unfold cntP
  omega
theorem szL_tot {xss : List (List Int)} {left : Int} (h : 0 ≤ szL xss left) : (xss.length : Int) + totLen xss xss.length ≤ left := by
  unfold szL at h
  split at h <;> omega
theorem cntP_le (p : Pt) (h : 0 ≤ szP p) : cntP p ≤ 16777216 := by
  unfold szP at h
  by_cases h1 : a1P p < 0
  · rw [if_pos h1] at h; omega
  rw [if_neg h1] at h
  by_cases h2 : a2P p < 0
  · rw [if_pos h2] at h; omega
  rw [if_neg h2] at h
  by_cases h3 : a3P p < 0
  · rw [if_pos h3] at h; omega
  rw [if_neg h3] at h
  by_cases h4 : a4P p < 0
  · rw [if_pos h4] at h; omega
  rw [if_neg h4] at h
  have e1 : a1P p = szA p.xs 1048576 := rfl
  have e2 : a2P p = szDo p.ds (a1P p) := rfl
  have e3 : a3P p = szL p.ls (a2P p) := rfl
  have e4 : a4P p = szF p.fs (a3P p) := rfl
  have e5 : a5P p = szI p.dr.length (a4P p) := rfl
  rw [e5] at h
  have b3 := szL_tot (xss := p.ls) (left := a2P p) (by rw [← e3]; omega)
  have b4 := cntF_sz p.fs (a3P p) (by rw [← e4]; omega)
  rcases szA_le p.xs 1048576 with q | ⟨_, q1, q1'⟩
  · omega
  rw [← e1] at q1
  rcases szDo_or p.ds (a1P p) (by omega) with q | ⟨_, q2, q2'⟩
  · omega
  rw [← e2] at q2
  rcases szL_or p.ls (a2P p) with q | ⟨_, q3, q3', q3''⟩
  · omega
  rw [← e3] at q3
  rcases szF_or p.fs (a3P p) (by omega) (by omega) with q | ⟨_, q4, q4', q4''⟩
  · omega
  rw [← e4] at q4
  rcases szI_or p.dr.length (a4P p) with q | ⟨_, q5, q5'⟩
  · omega
  unfold cntP
  omega
set_option maxRecDepth 100000 in
set_option maxHeartbeats 1600000 in
theorem markPlant_z (L H : Nat) (v : Value) (p : Pt) (k : Int) (w : World) (hl : PtLen p) (hH : H ≤ w.heap.size) (h1 : 1 ≤ k) (h2 : k + cntP p ≤ 1099500000000) (hw : PlantW L H w v p) :
    Calls Tryz.prog 30 #[v, .int .i64 k] w fun e w' => e = .returned (.int .i64 (k + cntP p)) ∧ Zone L H w w' := by
  obtain ⟨J, xs, ds, ls, fs, dr, tol⟩ := p
  obtain ⟨A1, k1, A2, k2, A3, k3, A4, k4, A5, k5, rfl, i1, i2, i3, i4, i5⟩ := hw
  obtain ⟨l1, l2, l3, l3', l4, l4', l5⟩ := hl
  have hc : cntP ⟨J, xs, ds, ls, fs, dr, tol⟩ = 7 * (xs.length : Int) + 4 * (ds.length : Int) + totLen ls ls.length + cntF fs fs.length + (dr.length : Int) := rfl
  rw [hc] at h2 ⊢
  have t0 := totLen_nonneg ls ls.length
  have t1 := cntF_nonneg fs fs.length
  dsimp only at *
  clear hc
  have be0 : Below w.heap.size w (w.alloc (.cells #[.int .i64 J, .slice A1 xs.length k1, .slice A2 ds.length k2, .slice A3 ls.length k3, .slice A4 fs.length k4, .slice A5 dr.length k5, .int .i64 tol] 57)) := by go_grown
  have hbx : Bx (w.alloc (.cells #[.int .i64 J, .slice A1 xs.length k1, .slice A2 ds.length k2, .slice A3 ls.length k3, .slice A4 fs.length k4, .slice A5 dr.length k5, .int .i64 tol] 57)) w.heap.size [.int .i64 J, .slice A1 xs.length k1, .slice A2 ds.length k2, .slice A3 ls.length k3, .slice A4 fs.length k4, .slice A5 dr.length k5, .int .i64 tol] := bx7_of (by go_simp) (by go_simp) (by go_simp) (by go_simp) (by go_simp) (by go_simp) (by go_simp) (fun j => by go_simp)
  have sz0 : w.heap.size < ((w.alloc (.cells #[.int .i64 J, .slice A1 xs.length k1, .slice A2 ds.length k2, .slice A3 ls.length k3, .slice A4 fs.length k4, .slice A5 dr.length k5, .int .i64 tol] 57))).heap.size := by simp
  have z0 : Zone L H w (w.alloc (.cells #[.int .i64 J, .slice A1 xs.length k1, .slice A2 ds.length k2, .slice A3 ls.length k3, .slice A4 fs.length k4, .slice A5 dr.length k5, .int .i64 tol] 57)) := Zone.of_below be0
  have C1 := Lib.hid (fun (W : World) (z : Zone L H w W) => markMine_z L H J A1 k1 xs.length k W l1 h1 (by omega) (by have := z.size; omega) (i1.zone z))
  have C2 := Lib.hid (fun (W : World) (z : Zone L H w W) => markDoorS_z L H A2 k2 ds.length (k + 7 * xs.length) W l2 (by omega) (by omega) (i2.zone z))
  have C3 := Lib.hid (fun (W : World) (z : Zone L H w W) => markInt64SS_z L H A3 k3 ls (k + 7 * xs.length + 4 * ds.length) W l3 (by omega) (by omega) (i3.zone z))
  have C4 := Lib.hid (fun (W : World) (z : Zone L H w W) => markFanS_z L H A4 k4 fs (k + 7 * xs.length + 4 * ds.length + totLen ls ls.length) W l4 l4' (by omega) (by omega) (i4.zone z))
  have C5 := Lib.hid (fun (W : World) (z : Zone L H w W) => markInt64S_z L H A5 k5 dr.length (k + 7 * xs.length + 4 * ds.length + totLen ls ls.length + cntF fs fs.length) W (by omega) (by omega) (i5.zone z))
  clear i1 i2 i3 i4 i5 l3' l4'
  generalize totLen ls ls.length = tl at *
  generalize cntF fs fs.length = tf at *
  have HB0 := Lib.hid hbx
  clear hbx be0
  go_enter Tryz.func30, Tryz.ntmps30
  go_wp2_with fail
  generalize (w.alloc (.cells #[.int .i64 J, .slice A1 xs.length k1, .slice A2 ds.length k2, .slice A3 ls.length k3, .slice A4 fs.length k4, .slice A5 dr.length k5, .int .i64 tol] 57)) = w0 at *
  refine (C1.out _ z0).mono ?_
  rintro e w1 ⟨rfl, y1⟩
  have z1 := z0.trans y1
  have sz1 : w.heap.size < w1.heap.size := Nat.lt_of_lt_of_le sz0 y1.size
  have HB1 := Lib.hid (HB0.out.zone y1 (.inr hH) sz0)
  obtain ⟨⟨p0, p1, p2, p3, p4, p5, p6⟩, -⟩ := bx7 HB1.out
  clear y1
  go_wp2_with fail
  clear p0 p1 p2 p3 p4 p5 p6
  refine (C2.out _ z1).mono ?_
  rintro e w2 ⟨rfl, y2⟩
  have z2 := z1.trans y2
  have sz2 : w.heap.size < w2.heap.size := Nat.lt_of_lt_of_le sz1 y2.size
  have HB2 := Lib.hid (HB1.out.zone y2 (.inr hH) sz1)
  obtain ⟨⟨p0, p1, p2, p3, p4, p5, p6⟩, -⟩ := bx7 HB2.out
  clear y2
  go_wp2_with fail
  clear p0 p1 p2 p3 p4 p5 p6
  refine (C3.out _ z2).mono ?_
  rintro e w3 ⟨rfl, y3⟩
  have z3 := z2.trans y3
  have sz3 : w.heap.size < w3.heap.size := Nat.lt_of_lt_of_le sz2 y3.size
  have HB3 := Lib.hid (HB2.out.zone y3 (.inr hH) sz2)
  obtain ⟨⟨p0, p1, p2, p3, p4, p5, p6⟩, -⟩ := bx7 HB3.out
  clear y3
  go_wp2_with fail
  clear p0 p1 p2 p3 p4 p5 p6
  refine (C4.out _ z3).mono ?_
  rintro e w4 ⟨rfl, y4⟩
  have z4 := z3.trans y4
  have sz4 : w.heap.size < w4.heap.size := Nat.lt_of_lt_of_le sz3 y4.size
  have HB4 := Lib.hid (HB3.out.zone y4 (.inr hH) sz3)
  obtain ⟨⟨p0, p1, p2, p3, p4, p5, p6⟩, -⟩ := bx7 HB4.out
  clear y4
  go_wp2_with fail
  clear p0 p1 p2 p3 p4 p5 p6
  refine (C5.out _ z4).mono ?_
  rintro e w5 ⟨rfl, y5⟩
  have z5 := z4.trans y5
  clear y5
  go_wp2_with fail
  go_ret
  exact ⟨ret_int (by omega), z5⟩
end Go.Proofs.YtejkoicgbgoiaaaGreat

/- Plants: the law's own comparison. Conditions: the lengths that the theorem names. Printed by gen_plant.py. -/
namespace Go.Proofs.YtejkoicgbgoiaaaGreat
open Go.RowKit
open Pl
set_option maxRecDepth 100000 in
set_option maxHeartbeats 1600000 in
theorem eqPlant_yes (v v' : Value) (p : Pt) (w : World) (hl : PtLen p) (hI : PlantIs w.heap.size w v p) (hI' : PlantIs w.heap.size w v' p) :
    Calls Tryz.prog 28 #[v, v'] w fun e w' => e = .returned (.bool true) ∧ Below w.heap.size w w' := by
  obtain ⟨J, xs, ds, ls, fs, dr, tol⟩ := p
  obtain ⟨A1, k1, A2, k2, A3, k3, A4, k4, A5, k5, rfl, i1, i2, i3, i4, i5⟩ := hI
  obtain ⟨B1, m1, B2, m2, B3, m3, B4, m4, B5, m5, rfl, j1, j2, j3, j4, j5⟩ := hI'
  obtain ⟨l1, l2, l3, l3', l4, l4', l5⟩ := hl
  dsimp only at *
  have C1 := Lib.hid (fun W (hb : Below w.heap.size w W) => eqMine_yes J A1 B1 k1 m1 xs w.heap.size w.heap.size W (by omega) (i1.below hb) (j1.below hb) hb.size hb.size)
  have C2 := Lib.hid (fun W (hb : Below w.heap.size w W) => eqDoorS_yes A2 B2 k2 m2 ds w.heap.size w.heap.size W (by omega) (i2.below hb) (j2.below hb) hb.size hb.size)
  have C3 := Lib.hid (fun W (hb : Below w.heap.size w W) => eqInt64SS_yes A3 B3 k3 m3 ls w.heap.size w.heap.size W (by omega) l3' (i3.below hb) (j3.below hb) hb.size hb.size)
  have C4 := Lib.hid (fun W (hb : Below w.heap.size w W) => eqFanS_yes A4 B4 k4 m4 fs w.heap.size w.heap.size W (by omega) l4' (i4.below hb) (j4.below hb) hb.size hb.size)
  have C5 := Lib.hid (fun W (hb : Below w.heap.size w W) => (eqInt64S_yes A5 B5 k5 m5 dr w.heap.size w.heap.size W (by omega) (i5.below hb) (j5.below hb)).mono (fun e w' (h : _ ∧ ∃ n, W.drewN n = w') => (⟨h.1, by obtain ⟨_, n, rfl⟩ := h; exact below_drewN (Below.refl _ _) n⟩ : _ ∧ Below W.heap.size W w')))
  clear i1 i2 i3 i4 i5 j1 j2 j3 j4 j5 l1 l2 l3 l3' l4 l4' l5
  have be0 : Below w.heap.size w ((w.alloc (.cells #[.int .i64 J, .slice A1 xs.length k1, .slice A2 ds.length k2, .slice A3 ls.length k3, .slice A4 fs.length k4, .slice A5 dr.length k5, .int .i64 tol] 57)).alloc (.cells #[.int .i64 J, .slice B1 xs.length m1, .slice B2 ds.length m2, .slice B3 ls.length m3, .slice B4 fs.length m4, .slice B5 dr.length m5, .int .i64 tol] 57)) := by go_grown
  have hp : Bx ((w.alloc (.cells #[.int .i64 J, .slice A1 xs.length k1, .slice A2 ds.length k2, .slice A3 ls.length k3, .slice A4 fs.length k4, .slice A5 dr.length k5, .int .i64 tol] 57)).alloc (.cells #[.int .i64 J, .slice B1 xs.length m1, .slice B2 ds.length m2, .slice B3 ls.length m3, .slice B4 fs.length m4, .slice B5 dr.length m5, .int .i64 tol] 57)) w.heap.size [.int .i64 J, .slice A1 xs.length k1, .slice A2 ds.length k2, .slice A3 ls.length k3, .slice A4 fs.length k4, .slice A5 dr.length k5, .int .i64 tol] := bx7_of (by go_simp) (by go_simp) (by go_simp) (by go_simp) (by go_simp) (by go_simp) (by go_simp) (fun j => by go_simp)
  have hq : Bx ((w.alloc (.cells #[.int .i64 J, .slice A1 xs.length k1, .slice A2 ds.length k2, .slice A3 ls.length k3, .slice A4 fs.length k4, .slice A5 dr.length k5, .int .i64 tol] 57)).alloc (.cells #[.int .i64 J, .slice B1 xs.length m1, .slice B2 ds.length m2, .slice B3 ls.length m3, .slice B4 fs.length m4, .slice B5 dr.length m5, .int .i64 tol] 57)) (w.heap.size + 1) [.int .i64 J, .slice B1 xs.length m1, .slice B2 ds.length m2, .slice B3 ls.length m3, .slice B4 fs.length m4, .slice B5 dr.length m5, .int .i64 tol] := bx7_of (by go_simp) (by go_simp) (by go_simp) (by go_simp) (by go_simp) (by go_simp) (by go_simp) (fun j => by go_simp)
  have szg0 : w.heap.size + 1 < (((w.alloc (.cells #[.int .i64 J, .slice A1 xs.length k1, .slice A2 ds.length k2, .slice A3 ls.length k3, .slice A4 fs.length k4, .slice A5 dr.length k5, .int .i64 tol] 57)).alloc (.cells #[.int .i64 J, .slice B1 xs.length m1, .slice B2 ds.length m2, .slice B3 ls.length m3, .slice B4 fs.length m4, .slice B5 dr.length m5, .int .i64 tol] 57))).heap.size := by simp
  have HP0 := Lib.hid hp
  have HQ0 := Lib.hid hq
  clear hp hq
  go_enter Tryz.func28, Tryz.ntmps28
  go_wp2_with fail
  generalize ((w.alloc (.cells #[.int .i64 J, .slice A1 xs.length k1, .slice A2 ds.length k2, .slice A3 ls.length k3, .slice A4 fs.length k4, .slice A5 dr.length k5, .int .i64 tol] 57)).alloc (.cells #[.int .i64 J, .slice B1 xs.length m1, .slice B2 ds.length m2, .slice B3 ls.length m3, .slice B4 fs.length m4, .slice B5 dr.length m5, .int .i64 tol] 57)) = w0 at *
  refine (C1.out _ be0).mono ?_
  rintro e w1 ⟨rfl, hb1⟩
  have HP1 := Lib.hid (HP0.out.below hb1 (by omega))
  have HQ1 := Lib.hid (HQ0.out.below hb1 szg0)
  have be1 := be0.trans (hb1.mono be0.size)
  have szg1 : w.heap.size + 1 < w1.heap.size := Nat.lt_of_lt_of_le szg0 hb1.size
  obtain ⟨⟨p0, p1, p2, p3, p4, p5, p6⟩, ⟨pf0, pf1, pf2, pf3, pf4, pf5, pf6⟩⟩ := bx7 HP1.out
  obtain ⟨⟨q0, q1, q2, q3, q4, q5, q6⟩, ⟨qf0, qf1, qf2, qf3, qf4, qf5, qf6⟩⟩ := bx7 HQ1.out
  go_wp2_with fail
  clear p0 pf0 q0 qf0 p1 pf1 q1 qf1 p2 pf2 q2 qf2 p3 pf3 q3 qf3 p4 pf4 q4 qf4 p5 pf5 q5 qf5 p6 pf6 q6 qf6
  refine (C2.out _ be1).mono ?_
  rintro e w2 ⟨rfl, hb2⟩
  have HP2 := Lib.hid (HP1.out.below hb2 (by omega))
  have HQ2 := Lib.hid (HQ1.out.below hb2 szg1)
  have be2 := be1.trans (hb2.mono be1.size)
  have szg2 : w.heap.size + 1 < w2.heap.size := Nat.lt_of_lt_of_le szg1 hb2.size
  obtain ⟨⟨p0, p1, p2, p3, p4, p5, p6⟩, ⟨pf0, pf1, pf2, pf3, pf4, pf5, pf6⟩⟩ := bx7 HP2.out
  obtain ⟨⟨q0, q1, q2, q3, q4, q5, q6⟩, ⟨qf0, qf1, qf2, qf3, qf4, qf5, qf6⟩⟩ := bx7 HQ2.out
  go_wp2_with fail
  clear p0 pf0 q0 qf0 p1 pf1 q1 qf1 p2 pf2 q2 qf2 p3 pf3 q3 qf3 p4 pf4 q4 qf4 p5 pf5 q5 qf5 p6 pf6 q6 qf6
  refine (C3.out _ be2).mono ?_
  rintro e w3 ⟨rfl, hb3⟩
  have HP3 := Lib.hid (HP2.out.below hb3 (by omega))
  have HQ3 := Lib.hid (HQ2.out.below hb3 szg2)
  have be3 := be2.trans (hb3.mono be2.size)
  have szg3 : w.heap.size + 1 < w3.heap.size := Nat.lt_of_lt_of_le szg2 hb3.size
  obtain ⟨⟨p0, p1, p2, p3, p4, p5, p6⟩, ⟨pf0, pf1, pf2, pf3, pf4, pf5, pf6⟩⟩ := bx7 HP3.out
  obtain ⟨⟨q0, q1, q2, q3, q4, q5, q6⟩, ⟨qf0, qf1, qf2, qf3, qf4, qf5, qf6⟩⟩ := bx7 HQ3.out
  go_wp2_with fail
  clear p0 pf0 q0 qf0 p1 pf1 q1 qf1 p2 pf2 q2 qf2 p3 pf3 q3 qf3 p4 pf4 q4 qf4 p5 pf5 q5 qf5 p6 pf6 q6 qf6
  refine (C4.out _ be3).mono ?_
  rintro e w4 ⟨rfl, hb4⟩
  have HP4 := Lib.hid (HP3.out.below hb4 (by omega))
  have HQ4 := Lib.hid (HQ3.out.below hb4 szg3)
  have be4 := be3.trans (hb4.mono be3.size)
  have szg4 : w.heap.size + 1 < w4.heap.size := Nat.lt_of_lt_of_le szg3 hb4.size
  obtain ⟨⟨p0, p1, p2, p3, p4, p5, p6⟩, ⟨pf0, pf1, pf2, pf3, pf4, pf5, pf6⟩⟩ := bx7 HP4.out
  obtain ⟨⟨q0, q1, q2, q3, q4, q5, q6⟩, ⟨qf0, qf1, qf2, qf3, qf4, qf5, qf6⟩⟩ := bx7 HQ4.out
  go_wp2_with fail
  clear p0 pf0 q0 qf0 p1 pf1 q1 qf1 p2 pf2 q2 qf2 p3 pf3 q3 qf3 p4 pf4 q4 qf4 p5 pf5 q5 qf5 p6 pf6 q6 qf6
  refine (C5.out _ be4).mono ?_
  rintro e w5 ⟨rfl, hb5⟩
  have HP5 := Lib.hid (HP4.out.below hb5 (by omega))
  have HQ5 := Lib.hid (HQ4.out.below hb5 szg4)
  have be5 := be4.trans (hb5.mono be4.size)
  have szg5 : w.heap.size + 1 < w5.heap.size := Nat.lt_of_lt_of_le szg4 hb5.size
  obtain ⟨⟨p0, p1, p2, p3, p4, p5, p6⟩, ⟨pf0, pf1, pf2, pf3, pf4, pf5, pf6⟩⟩ := bx7 HP5.out
  obtain ⟨⟨q0, q1, q2, q3, q4, q5, q6⟩, ⟨qf0, qf1, qf2, qf3, qf4, qf5, qf6⟩⟩ := bx7 HQ5.out
  go_wp2_with fail
  go_ret
  exact ⟨rfl, be5⟩
end Go.Proofs.YtejkoicgbgoiaaaGreat

/- Doors: when one is valid, by the program and by the reference. Conditions: the facts on memory and on lengths that each theorem names. -/
namespace Go.Proofs.YtejkoicgbgoiaaaGreat
open Go.RowKit
open Pl
noncomputable def doorB (s : ByteArray) (a u v : Int) : Bool := nameB s && (inB a 0 23 && (inB v 1 1000000 && inB u 1 v))
theorem ValidDoor_i (s : ByteArray) (a u v : Int) (w : World) (hs : s.size ≤ maxLen) :
    Calls Tryz.prog 115 #[.agg #[.string s, .int .i64 a, .int .i64 u, .int .i64 v]] w fun e w' => e = .returned (.bool (doorB s a u v)) ∧ Below w.heap.size w w' := by
  unfold doorB
  cases h0 : nameB s
  · go_enter Tryz.func115, Tryz.ntmps115
    go_wp2_with (first | (go_at_call 43; refine (within_any _ _ _ _).mono ?_; rintro e w' ⟨rfl, rfl⟩) | (go_at_call 152; refine (resistanceOk_any _ _).mono ?_; rintro e w' ⟨rfl, rfl⟩) | (go_at_call 103; refine (IsName_any _ _ hs).mono ?_; rintro e w' ⟨rfl, rfl⟩))
    go_ret
    exact ⟨rfl, by go_grown⟩
  · cases h1 : inB a 0 23
    · go_enter Tryz.func115, Tryz.ntmps115
      go_wp2_with (first | (go_at_call 43; refine (within_any _ _ _ _).mono ?_; rintro e w' ⟨rfl, rfl⟩) | (go_at_call 152; refine (resistanceOk_any _ _).mono ?_; rintro e w' ⟨rfl, rfl⟩) | (go_at_call 103; refine (IsName_any _ _ hs).mono ?_; rintro e w' ⟨rfl, rfl⟩))
      go_ret
      exact ⟨rfl, by go_grown⟩
    · obtain ⟨h1a, h1b⟩ := inB_iff.1 h1
      cases h2 : inB v 1 1000000
      · go_enter Tryz.func115, Tryz.ntmps115
        go_wp2_with (first | (go_at_call 43; refine (within_any _ _ _ _).mono ?_; rintro e w' ⟨rfl, rfl⟩) | (go_at_call 152; refine (resistanceOk_any _ _).mono ?_; rintro e w' ⟨rfl, rfl⟩) | (go_at_call 103; refine (IsName_any _ _ hs).mono ?_; rintro e w' ⟨rfl, rfl⟩))
        go_ret
        exact ⟨rfl, by go_grown⟩
      · obtain ⟨h2a, h2b⟩ := inB_iff.1 h2
        go_enter Tryz.func115, Tryz.ntmps115
        go_wp2_with (first | (go_at_call 43; refine (within_any _ _ _ _).mono ?_; rintro e w' ⟨rfl, rfl⟩) | (go_at_call 152; refine (resistanceOk_any _ _).mono ?_; rintro e w' ⟨rfl, rfl⟩) | (go_at_call 103; refine (IsName_any _ _ hs).mono ?_; rintro e w' ⟨rfl, rfl⟩))
        go_ret
        exact ⟨rfl, by go_grown⟩
theorem l10One_any (b o : Nat) (s : ByteArray) (a u v : Int) (w : World) (hs : s.size ≤ maxLen) (c0 : w.cell? ⟨b, o, none⟩ = some (.string s)) (c1 : w.cell? ⟨b, o + 1, none⟩ = some (.int .i64 a)) (c2 : w.cell? ⟨b, o + 2, none⟩ = some (.int .i64 u)) (c3 : w.cell? ⟨b, o + 3, none⟩ = some (.int .i64 v)) :
    Calls Tryz.prog 106 #[.pointer (some ⟨b, o, none⟩)] w fun e w' => e = .returned (.bool (doorB s a u v)) ∧ ∃ n, w.drewN n = w' := by
  have HN := Lib.hid (fun W => l01Name_any s W hs)
  have HA := Lib.hid (fun W => l00In_any a 0 23 W)
  have HS := Lib.hid (fun W => l03Res_any v W)
  have HO := Lib.hid (fun W => l00In_any u 1 v W)
  unfold doorB
  cases h0 : nameB s
  · rw [h0] at HN
    clear h0
    go_enter Tryz.func106, Tryz.ntmps106
    go_wp2
    go_big_quiet ((go_at_call 139; first | (with_reducible exact quiet_s (HN.out _)) | (with_reducible exact quiet_s2 (HN.out _))))
    go_wp2
    go_ret
    exact ⟨rfl, _, rfl⟩
  rw [h0] at HN
  clear h0
  cases h1 : inB a 0 23
  · rw [h1] at HA
    clear h1
    go_enter Tryz.func106, Tryz.ntmps106
    go_wp2
    go_big_quiet (first | (go_at_call 139; first | (with_reducible exact quiet_s (HN.out _)) | (with_reducible exact quiet_s2 (HN.out _))) | (go_at_call 67; first | (with_reducible exact quiet_s (HA.out _)) | (with_reducible exact quiet_s2 (HA.out _))))
    go_wp2
    go_ret
    exact ⟨rfl, _, rfl⟩
  rw [h1] at HA
  clear h1
  cases h2 : inB v 1 1000000
  · rw [h2] at HS
    clear h2
    go_enter Tryz.func106, Tryz.ntmps106
    go_wp2
    go_big_quiet (first | (go_at_call 139; first | (with_reducible exact quiet_s (HN.out _)) | (with_reducible exact quiet_s2 (HN.out _))) | (go_at_call 67; first | (with_reducible exact quiet_s (HA.out _)) | (with_reducible exact quiet_s2 (HA.out _))) | (go_at_call 136; first | (with_reducible exact quiet_s (HS.out _)) | (with_reducible exact quiet_s2 (HS.out _))))
    go_wp2
    go_ret
    exact ⟨rfl, _, rfl⟩
  rw [h2] at HS
  clear h2
  generalize inB u 1 v = r at *
  go_enter Tryz.func106, Tryz.ntmps106
  go_wp2
  go_big_quiet (first | (go_at_call 139; first | (with_reducible exact quiet_s (HN.out _)) | (with_reducible exact quiet_s2 (HN.out _))) | (go_at_call 67; first | (with_reducible exact quiet_s (HA.out _)) | (with_reducible exact quiet_s2 (HA.out _))) | (go_at_call 136; first | (with_reducible exact quiet_s (HS.out _)) | (with_reducible exact quiet_s2 (HS.out _))) | (go_at_call 67; first | (with_reducible exact quiet_s (HO.out _)) | (with_reducible exact quiet_s2 (HO.out _))))
  go_wp2
  go_ret
  exact ⟨rfl, _, rfl⟩
end Go.Proofs.YtejkoicgbgoiaaaGreat

/- Lists of doors: when one is valid in a mine, by the program. Conditions: the facts on memory and on lengths that each theorem names. Printed by gen_doors.py. -/
namespace Go.Proofs.YtejkoicgbgoiaaaGreat
open Go.RowKit
open Pl
def ordD (ds : List Do) (k : Nat) : Bool := decide (k = 0) || Op.bytesLess (ds.getD (k - 1) nDo).id.toList (ds.getD k nDo).id.toList
def soleD (ds : List Do) (k : Nat) : Bool := !((ds.take k).any fun x => x.i0 == (ds.getD k nDo).i0)
noncomputable def dOkB (d : Do) : Bool := doorB d.id d.i0 d.i1 d.i2
noncomputable def doorsP (nx : Nat) (ds : List Do) (k : Nat) : Bool := dOkB (ds.getD k nDo) && (inB (ds.getD k nDo).i0 0 ((nx : Int) - 1) && (ordD ds k && soleD ds k))
noncomputable def doorsB (J : Int) (xs : List Aw) (ds : List Do) : Bool := mineB J xs && (decide ((ds.length : Int) ≤ 8) && allUp (doorsP xs.length ds) ds.length)
theorem ordD_succ (ds : List Do) (k : Nat) : ordD ds (k + 1) = Op.bytesLess (ds.getD k nDo).id.toList (ds.getD (k + 1) nDo).id.toList := by unfold ordD; simp
theorem Recs.takeDo {B : Nat} {w : World} {A : Option Addr} {ds : List Do} (h : Recs encDo 4 B w A ds) (n : Nat) : Recs encDo 4 B w A (ds.take n) := by
  intro hp
  have hl : (ds.take n).length ≤ ds.length := by rw [List.length_take]; omega
  obtain ⟨b, o, e, hb, hc⟩ := h (by omega)
  refine ⟨b, o, e, hb, fun k hk j u hu => ?_⟩
  rw [List.getElem_take] at hu
  exact hc k (by omega) j u hu
theorem doors1_any (bm : Nat) (s : ByteArray) (a u v a0 : Int) (w : World) (hc : w.cell? ⟨bm, 1, none⟩ = some (.int .i64 a0)) :
    Calls Tryz.prog 117 #[.agg #[.string s, .int .i64 a, .int .i64 u, .int .i64 v], .pointer (some ⟨bm, 0, none⟩)] w fun e w' => e = .returned (.bool (a == a0)) ∧ Below w.heap.size w w' := by
  have hc1 := Lib.cell?_alloc_some (.cells #[.string s, .int .i64 a, .int .i64 u, .int .i64 v] 119) hc
  go_enter Tryz.func117, Tryz.ntmps117
  go_wp2
  go_ret
  exact ⟨rfl, by go_grown⟩
end Go.Proofs.YtejkoicgbgoiaaaGreat


namespace Go.Proofs.YtejkoicgbgoiaaaGreat
open Go.RowKit
open Pl
set_option maxRecDepth 100000 in
set_option maxHeartbeats 3200000 in
theorem ValidDoors_i (J : Int) (A : Option Addr) (cp : Nat) (xs : List Aw) (A2 : Option Addr) (c2 : Nat) (ds : List Do) (B : Nat) (w : World) (hn : (xs.length : Int) ≤ 1099511627776) (hcap : ds.length ≤ c2) (hF : FitsA xs) (hFd : FitsDo ds) (hI : Recs encA 7 B w A xs) (hId : Recs encDo 4 B w A2 ds) (hB : B ≤ w.heap.size) :
    Calls Tryz.prog 83 #[.agg #[.int .i64 J, .slice A xs.length cp], .slice A2 ds.length c2] w fun e w' => e = .returned (.bool (doorsB J xs ds)) ∧ Below w.heap.size w w' := by
  obtain ⟨R, hR⟩ : ∃ R, R = doorsB J xs ds := ⟨_, rfl⟩
  rw [← hR]
  have HR := Lib.hid hR
  clear hR
  have J0 := Lib.hid (hId.more hB)
  have HL := Lib.hid (FitsDo.id hFd)
  have hb0 : Below w.heap.size w (w.alloc (.cells #[.int .i64 J, .slice A xs.length cp] 33)) := by go_grown
  have HM0 := Lib.hid (ValidMine_i J A cp xs w.heap.size (w.alloc (.cells #[.int .i64 J, .slice A xs.length cp] 33)) hn hF ((hI.more hB).below hb0) hb0.size)
  clear hI hId hF hFd
  cases hmi : mineB J xs
  · have HN : Hid (doorsB J xs ds = false) := Lib.hid (by unfold doorsB; rw [hmi]; rfl)
    rw [hmi] at HM0
    clear hmi
    go_enter Tryz.func83, Tryz.ntmps83
    go_wp2_with fail
    refine HM0.out.mono ?_
    rintro e w1 ⟨rfl, hb1⟩
    go_wp2_with fail
    go_ret
    exact ⟨ret_bool (by rw [HR.out, HN.out]), hb0.trans (hb1.mono hb0.size)⟩
  rw [hmi] at HM0
  by_cases h8 : (ds.length : Int) ≤ 8
  rotate_left
  · have HN : Hid (doorsB J xs ds = false) := Lib.hid (by unfold doorsB; rw [decide_eq_false h8]; simp)
    clear hmi
    go_enter Tryz.func83, Tryz.ntmps83
    go_wp2_with fail
    refine HM0.out.mono ?_
    rintro e w1 ⟨rfl, hb1⟩
    go_wp2_with fail
    go_ret
    exact ⟨ret_bool (by rw [HR.out, HN.out]), hb0.trans (hb1.mono hb0.size)⟩
  obtain ⟨m, m1, m2, m3⟩ := first_stop (doorsP xs.length ds) ds.length
  have HM : Hid (doorsB J xs ds = decide (m = ds.length)) := Lib.hid (by unfold doorsB; rw [hmi, decide_eq_true h8, allUp_stop m1 m2 m3]; rfl)
  have M2 := Lib.hid m2
  have M3 := Lib.hid m3
  clear m2 m3 hmi
  have k0 : (w.alloc (.cells #[.int .i64 J, .slice A xs.length cp] 33)).cell? ⟨w.heap.size, 0, none⟩ = some (.int .i64 J) := by go_simp
  have k1 : (w.alloc (.cells #[.int .i64 J, .slice A xs.length cp] 33)).cell? ⟨w.heap.size, 1, none⟩ = some (.slice A xs.length cp) := by go_simp
  have kz : w.heap.size < (w.alloc (.cells #[.int .i64 J, .slice A xs.length cp] 33)).heap.size := by simp
  go_enter Tryz.func83, Tryz.ntmps83
  go_wp2_with fail
  refine HM0.out.mono ?_
  rintro e w1 ⟨rfl, hb1⟩
  have k2 := cell_later hb1 k0
  have k3 := cell_later hb1 k1
  have hbw := hb0.trans (hb1.mono hb0.size)
  have kz1 := Nat.lt_of_lt_of_le kz hb1.size
  clear k0 k1 HM0
  go_wp2_with fail
  go_loopw [17] (fun i wr => ∃ q : Nat, q ≤ m ∧ i = .int .i64 q ∧ Below w.heap.size w wr ∧ w.heap.size < wr.heap.size ∧ wr.cell? ⟨w.heap.size, 0, none⟩ = some (.int .i64 J) ∧ wr.cell? ⟨w.heap.size, 1, none⟩ = some (.slice A xs.length cp)) (fun i _ => ds.length - (intOf i).toNat)
  case atStart => exact ⟨0, Nat.zero_le _, rfl, hbw, kz1, k2, k3⟩
  case round =>
    obtain ⟨q, hq, rfl, hb, hz, m0, mm⟩ := hrel
    clear k2 k3
    by_cases hlt : q < ds.length
    · skip
      obtain ⟨⟨s, a, u, v⟩, hx⟩ : ∃ x, ds.getD q nDo = x := ⟨_, rfl⟩
      obtain ⟨b, o, rfl, hab, c0, c1, c2', c3⟩ := (J0.out.below hb).cellsDo hlt hx
      have hs : s.size ≤ maxLen := by have := HL.out q; rw [hx] at this; exact this
      have i0 : (0 : Int) ≤ (q : Int) := by omega
      have i1 : (q : Int) < ds.length := by omega
      have i2 : (q : Int) ≤ c2 := by omega
      have e0 := fun L : Later (wr.alloc (.cells #[.string s, .int .i64 a, .int .i64 u, .int .i64 v] 119)) => L.cell (p := ⟨wr.heap.size, 0, none⟩) (v := .string s) (by simp)
      have e1 := fun L : Later (wr.alloc (.cells #[.string s, .int .i64 a, .int .i64 u, .int .i64 v] 119)) => L.cell (p := ⟨wr.heap.size, 1, none⟩) (v := .int .i64 a) (by simp)
      have e2 := fun L : Later (wr.alloc (.cells #[.string s, .int .i64 a, .int .i64 u, .int .i64 v] 119)) => L.cell (p := ⟨wr.heap.size, 2, none⟩) (v := .int .i64 u) (by simp)
      have e3 := fun L : Later (wr.alloc (.cells #[.string s, .int .i64 a, .int .i64 u, .int .i64 v] 119)) => L.cell (p := ⟨wr.heap.size, 3, none⟩) (v := .int .i64 v) (by simp)
      have g0 := fun L : Later (wr.alloc (.cells #[.string s, .int .i64 a, .int .i64 u, .int .i64 v] 119)) => L.cell (Lib.cell?_alloc_some _ m0)
      have g1 := fun L : Later (wr.alloc (.cells #[.string s, .int .i64 a, .int .i64 u, .int .i64 v] 119)) => L.cell (Lib.cell?_alloc_some _ mm)
      have HV := Lib.hid (fun W => ValidDoor_i s a u v W hs)
      have HX := Lib.hid (fun W => (indexValidA_any A cp xs.length a W hn).mono (fun e w' (h : _ ∧ W = w') => (⟨h.1, by obtain ⟨_, rfl⟩ := h; exact Below.refl _ _⟩ : _ ∧ Below W.heap.size W w')))
      have hsz := hb.size
      have hba : Below w.heap.size w (wr.alloc (.cells #[.string s, .int .i64 a, .int .i64 u, .int .i64 v] 119)) := hb.alloc hsz _
      have hql : (ds.take q).length = q := by rw [List.length_take]; omega
      have HC : Hid (∀ L : Later (wr.alloc (.cells #[.string s, .int .i64 a, .int .i64 u, .int .i64 v] 119)), Calls Tryz.prog 116 #[.slice (some ⟨b, o, none⟩) q c2, .func (.func 117) #[] #[.pointer (some ⟨wr.heap.size, 0, none⟩)]] L.world fun e w' => e = .returned (.bool ((ds.take q).any fun x => x.i0 == a)) ∧ Below L.world.heap.size L.world w') := Lib.hid (fun L => by
        have hbl : Below w.heap.size w L.world := hba.trans (L.below.mono (by simp; omega))
        have hcell := e1 L
        have hlt1 : wr.heap.size < L.world.heap.size := by have := L.below.size; simp at this; omega
        have h := ContainsFuncD_any 117 #[.pointer (some ⟨wr.heap.size, 0, none⟩)] (enters_of Tryz.func117 (by kernel_rfl) rfl) (some ⟨b, o, none⟩) c2 (ds.take q) w.heap.size (fun y => y == a) L.world (by omega) (Recs.takeDo (J0.out.below hbl) q) hbl.size (fun s' a' u' v' W hW => doors1_any wr.heap.size s' a' u' v' a W ((hW.cell (p := ⟨wr.heap.size, 1, none⟩) hlt1).trans hcell))
        rw [hql] at h
        exact h)
      clear hql
      by_cases hqm : q < m
      · have hp := M2.out q hqm
        unfold doorsP at hp
        rw [hx] at hp
        simp only [Bool.and_eq_true] at hp
        obtain ⟨p1, p2, p3, p4⟩ := hp
        have p4 : (!((ds.take q).any fun x => x.i0 == a)) = true := by unfold soleD at p4; rw [hx] at p4; exact p4
        rw [Bool.not_eq_true'] at p4
        rw [p4] at HC
        have p1 : doorB s a u v = true := p1
        have p2 : inB a 0 ((xs.length : Int) - 1) = true := p2
        rw [p1] at HV
        rw [p2] at HX
        by_cases hq0 : q = 0
        · have hz0 : decide (0 < q) = false := decide_eq_false (by omega)
          clear p1 p2 p3 p4 hx hq0
          go_wp2
          refine wp_region_later (by kernel_rfl) (by kernel_rfl) ?_
          repeat (go_big_quiet_step ((first | (go_at_call 115; first | (with_reducible exact later_b (HV.out _)) | (with_reducible exact later_d (HV.out _)) | (with_reducible exact later_s (HV.out _))) | (go_at_call 61; first | (with_reducible exact later_b (HX.out _)) | (with_reducible exact later_d (HX.out _)) | (with_reducible exact later_s (HX.out _))))))
          refine wpQuiet_nil ?_
          intro _ hw'
          obtain ⟨LL, hw''⟩ := hw'
          subst hw''
          go_wp2_with fail
          refine (HC.out LL).mono ?_
          rintro e w3 ⟨rfl, hb3⟩
          go_wp2_with fail
          go_roundw
          case rel =>
            have hl : wr.heap.size + 1 ≤ LL.world.heap.size := by have := LL.size; simpa using this
            exact ⟨q + 1, by omega, by go_num, (hba.trans (LL.below.mono (by simp; omega))).trans (hb3.mono (by omega)), by have := hb3.size; omega, cell_later hb3 (g0 LL), cell_later hb3 (g1 LL)⟩
          case measure => simp [intOf]; omega
        · obtain ⟨p, hp⟩ : ∃ p, q = p + 1 := ⟨q - 1, by omega⟩
          have hz0 : decide (0 < q) = true := decide_eq_true (by omega)
          obtain ⟨⟨s', a', u', v'⟩, hx'⟩ : ∃ x, ds.getD p nDo = x := ⟨_, rfl⟩
          obtain ⟨b', o', hbo, _, d0, -⟩ := (J0.out.below hb).cellsDo (j := p) (by omega) hx'
          cases hbo
          rw [hp, ordD_succ, ← hp, hx, hx'] at p3
          have p3 : Op.bytesLess s'.toList s.toList = true := p3
          obtain ⟨o1, o2⟩ := (less_flip s'.toList s.toList).1 p3
          have g2 := fun L : Later (wr.alloc (.cells #[.string s, .int .i64 a, .int .i64 u, .int .i64 v] 119)) => L.cell (Lib.cell?_alloc_some _ d0)
          have w0 : (0 : Int) ≤ (p : Int) := by omega
          have w1' : (p : Int) < ds.length := by omega
          have hw : IntKind.i64.wrap ((q : Int) - 1) = (p : Int) := by rw [IntWalk.i64_in _ (by omega)]; omega
          clear p1 p2 p3 p4 hx hx' hp hq0
          go_wp2
          refine wp_region_later (by kernel_rfl) (by kernel_rfl) ?_
          repeat (go_big_quiet_step ((first | (go_at_call 115; first | (with_reducible exact later_b (HV.out _)) | (with_reducible exact later_d (HV.out _)) | (with_reducible exact later_s (HV.out _))) | (go_at_call 61; first | (with_reducible exact later_b (HX.out _)) | (with_reducible exact later_d (HX.out _)) | (with_reducible exact later_s (HX.out _))))))
          refine wpQuiet_nil ?_
          intro _ hw'
          obtain ⟨LL, hw''⟩ := hw'
          subst hw''
          clear hw
          go_wp2_with fail
          refine (HC.out LL).mono ?_
          rintro e w3 ⟨rfl, hb3⟩
          go_wp2_with fail
          go_roundw
          case rel =>
            have hl : wr.heap.size + 1 ≤ LL.world.heap.size := by have := LL.size; simpa using this
            exact ⟨q + 1, by omega, by go_num, (hba.trans (LL.below.mono (by simp; omega))).trans (hb3.mono (by omega)), by have := hb3.size; omega, cell_later hb3 (g0 LL), cell_later hb3 (g1 LL)⟩
          case measure => simp [intOf]; omega
      · obtain rfl : m = q := by omega
        have HD := Lib.hid (decide_eq_false (show ¬ m = ds.length by omega))
        have hp := M3.out hlt
        unfold doorsP at hp
        rw [hx] at hp
        have hp : (doorB s a u v && (inB a 0 ((xs.length : Int) - 1) && (ordD ds m && soleD ds m))) = false := hp
        cases p1 : doorB s a u v
        · rw [p1] at HV
          clear p1 hp hx
          go_wp2
          refine wp_region_later (by kernel_rfl) (by kernel_rfl) ?_
          repeat (go_big_quiet_step ((go_at_call 115; first | (with_reducible exact later_b (HV.out _)) | (with_reducible exact later_d (HV.out _)) | (with_reducible exact later_s (HV.out _)))))
          refine wpQuiet_nil ?_
          intro _ hw'
          obtain ⟨LL, hw''⟩ := hw'
          subst hw''
          go_wp2
          go_ret
          exact ⟨ret_bool (by rw [HR.out, HM.out, HD.out]), hba.trans (LL.below.mono (by simp; omega))⟩
        · rw [p1] at HV hp
          cases p2 : inB a 0 ((xs.length : Int) - 1)
          · rw [p2] at HX
            clear p1 p2 hp hx
            go_wp2
            refine wp_region_later (by kernel_rfl) (by kernel_rfl) ?_
            repeat (go_big_quiet_step ((first | (go_at_call 115; first | (with_reducible exact later_b (HV.out _)) | (with_reducible exact later_d (HV.out _)) | (with_reducible exact later_s (HV.out _))) | (go_at_call 61; first | (with_reducible exact later_b (HX.out _)) | (with_reducible exact later_d (HX.out _)) | (with_reducible exact later_s (HX.out _))))))
            refine wpQuiet_nil ?_
            intro _ hw'
            obtain ⟨LL, hw''⟩ := hw'
            subst hw''
            go_wp2
            go_ret
            exact ⟨ret_bool (by rw [HR.out, HM.out, HD.out]), hba.trans (LL.below.mono (by simp; omega))⟩
          · rw [p2, Bool.true_and, Bool.true_and] at hp
            rw [p2] at HX
            cases p3 : ordD ds m
            · have hq0 : m ≠ 0 := fun e => by rw [e] at p3; simp [ordD] at p3
              obtain ⟨p, hpm⟩ : ∃ p, m = p + 1 := ⟨m - 1, by omega⟩
              have hz0 : decide (0 < m) = true := decide_eq_true (by omega)
              obtain ⟨⟨s', a', u', v'⟩, hx'⟩ : ∃ x, ds.getD p nDo = x := ⟨_, rfl⟩
              obtain ⟨b', o', hbo, _, d0, -⟩ := (J0.out.below hb).cellsDo (j := p) (by omega) hx'
              cases hbo
              rw [hpm, ordD_succ, ← hpm, hx, hx'] at p3
              have p3 : Op.bytesLess s'.toList s.toList = false := p3
              have g2 := fun L : Later (wr.alloc (.cells #[.string s, .int .i64 a, .int .i64 u, .int .i64 v] 119)) => L.cell (Lib.cell?_alloc_some _ d0)
              have w0 : (0 : Int) ≤ (p : Int) := by omega
              have w1' : (p : Int) < ds.length := by omega
              have hw : IntKind.i64.wrap ((m : Int) - 1) = (p : Int) := by rw [IntWalk.i64_in _ (by omega)]; omega
              rcases (less_flip s'.toList s.toList).2 p3 with o1 | ⟨o1, o2⟩
              · clear p1 p2 p3 hx hx' hpm hq0 hp
                go_wp2
                refine wp_region_later (by kernel_rfl) (by kernel_rfl) ?_
                repeat (go_big_quiet_step ((first | (go_at_call 115; first | (with_reducible exact later_b (HV.out _)) | (with_reducible exact later_d (HV.out _)) | (with_reducible exact later_s (HV.out _))) | (go_at_call 61; first | (with_reducible exact later_b (HX.out _)) | (with_reducible exact later_d (HX.out _)) | (with_reducible exact later_s (HX.out _))))))
                refine wpQuiet_nil ?_
                intro _ hw'
                obtain ⟨LL, hw''⟩ := hw'
                subst hw''
                clear hw
                go_wp2
                go_ret
                exact ⟨ret_bool (by rw [HR.out, HM.out, HD.out]), hba.trans (LL.below.mono (by simp; omega))⟩
              · clear p1 p2 p3 hx hx' hpm hq0 hp
                go_wp2
                refine wp_region_later (by kernel_rfl) (by kernel_rfl) ?_
                repeat (go_big_quiet_step ((first | (go_at_call 115; first | (with_reducible exact later_b (HV.out _)) | (with_reducible exact later_d (HV.out _)) | (with_reducible exact later_s (HV.out _))) | (go_at_call 61; first | (with_reducible exact later_b (HX.out _)) | (with_reducible exact later_d (HX.out _)) | (with_reducible exact later_s (HX.out _))))))
                refine wpQuiet_nil ?_
                intro _ hw'
                obtain ⟨LL, hw''⟩ := hw'
                subst hw''
                clear hw
                go_wp2
                go_ret
                exact ⟨ret_bool (by rw [HR.out, HM.out, HD.out]), hba.trans (LL.below.mono (by simp; omega))⟩
            · rw [p3, Bool.true_and] at hp
              have p4 : (!((ds.take m).any fun x => x.i0 == a)) = false := by unfold soleD at hp; rw [hx] at hp; exact hp
              rw [Bool.not_eq_false'] at p4
              rw [p4] at HC
              by_cases hq0 : m = 0
              · exfalso
                rw [hq0] at p4
                simp at p4
              obtain ⟨p, hpm⟩ : ∃ p, m = p + 1 := ⟨m - 1, by omega⟩
              have hz0 : decide (0 < m) = true := decide_eq_true (by omega)
              obtain ⟨⟨s', a', u', v'⟩, hx'⟩ : ∃ x, ds.getD p nDo = x := ⟨_, rfl⟩
              obtain ⟨b', o', hbo, _, d0, -⟩ := (J0.out.below hb).cellsDo (j := p) (by omega) hx'
              cases hbo
              rw [hpm, ordD_succ, ← hpm, hx, hx'] at p3
              have p3 : Op.bytesLess s'.toList s.toList = true := p3
              obtain ⟨o1, o2⟩ := (less_flip s'.toList s.toList).1 p3
              have g2 := fun L : Later (wr.alloc (.cells #[.string s, .int .i64 a, .int .i64 u, .int .i64 v] 119)) => L.cell (Lib.cell?_alloc_some _ d0)
              have w0 : (0 : Int) ≤ (p : Int) := by omega
              have w1' : (p : Int) < ds.length := by omega
              have hw : IntKind.i64.wrap ((m : Int) - 1) = (p : Int) := by rw [IntWalk.i64_in _ (by omega)]; omega
              clear p1 p2 p3 p4 hx hx' hpm hq0 hp
              go_wp2
              refine wp_region_later (by kernel_rfl) (by kernel_rfl) ?_
              repeat (go_big_quiet_step ((first | (go_at_call 115; first | (with_reducible exact later_b (HV.out _)) | (with_reducible exact later_d (HV.out _)) | (with_reducible exact later_s (HV.out _))) | (go_at_call 61; first | (with_reducible exact later_b (HX.out _)) | (with_reducible exact later_d (HX.out _)) | (with_reducible exact later_s (HX.out _))))))
              refine wpQuiet_nil ?_
              intro _ hw'
              obtain ⟨LL, hw''⟩ := hw'
              subst hw''
              clear hw
              go_wp2_with fail
              refine (HC.out LL).mono ?_
              rintro e w3 ⟨rfl, hb3⟩
              have hl : wr.heap.size + 1 ≤ LL.world.heap.size := by have := LL.size; simpa using this
              go_wp2_with fail
              go_ret
              exact ⟨ret_bool (by rw [HR.out, HM.out, HD.out]), (hba.trans (LL.below.mono (by simp; omega))).trans (hb3.mono (by omega))⟩

    · have HD := Lib.hid (decide_eq_true (show m = ds.length by omega))
      go_wp2
      go_ret
      exact ⟨ret_bool (by rw [HR.out, HM.out, HD.out]), hb⟩
end Go.Proofs.YtejkoicgbgoiaaaGreat
