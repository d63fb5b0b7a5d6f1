/- Proved here: the parts Zone, FanV, FansV, HofR, Idx, Drop, HasF, Press of the row's proof, joined by a program. Conditions: as each part says. -/
import Derived.Test.YtejkoicgbgoiaaaGreatFm4
import Derived.BigQuiet
/- Marks on lists of lists and on fans: what a law writes over its own copies of them. Conditions: the lengths that each theorem names. -/
namespace Go.Proofs.YtejkoicgbgoiaaaGreat
open Go.RowKit
open Pl
/-- Of what was, only blocks of [L, H) have changed; there each cell holds a value of the kind that it held, slices are as they were; new blocks may stand behind. -/
structure Zone (L H : Nat) (w w' : World) : Prop where
  os : w'.os = w.os
  tape : w'.tape = w.tape
  output : w'.output = w.output
  size : w.heap.size ≤ w'.heap.size
  block : ∀ k, k < w.heap.size → (k < L ∨ H ≤ k) → w'.heap[k]? = w.heap[k]?
  fz : ∀ a : Addr, a.block < w.heap.size → w'.frozen? a = w.frozen? a
  sl : ∀ (a : Addr) (A : Option Addr) (n c : Nat), w.cell? a = some (.slice A n c) → w'.cell? a = some (.slice A n c)
  num : ∀ (a : Addr) (x : Int), w.cell? a = some (.int .i64 x) → ∃ y, w'.cell? a = some (.int .i64 y)
  str : ∀ (a : Addr) (s : ByteArray), w.cell? a = some (.string s) → ∃ t, w'.cell? a = some (.string t)
theorem Zone.refl (L H : Nat) (w : World) : Zone L H w w := ⟨rfl, rfl, rfl, Nat.le_refl _, fun _ _ _ => rfl, fun _ _ => rfl, fun _ _ _ _ h => h, fun _ x h => ⟨x, h⟩, fun _ s h => ⟨s, h⟩⟩
theorem Zone.trans {L H : Nat} {w w1 w2 : World} (h : Zone L H w w1) (k : Zone L H w1 w2) : Zone L H w w2 where
  os := k.os.trans h.os
  tape := k.tape.trans h.tape
  output := k.output.trans h.output
  size := Nat.le_trans h.size k.size
  block := fun i hi ho => (k.block i (Nat.lt_of_lt_of_le hi h.size) ho).trans (h.block i hi ho)
  fz := fun a ha => (k.fz a (Nat.lt_of_lt_of_le ha h.size)).trans (h.fz a ha)
  sl := fun a A n c e => k.sl a A n c (h.sl a A n c e)
  num := fun a x e => by obtain ⟨y, e1⟩ := h.num a x e; exact k.num a y e1
  str := fun a s e => by obtain ⟨y, e1⟩ := h.str a s e; exact k.str a y e1
theorem cell_lt {w : World} {a : Addr} {v : Value} (h : w.cell? a = some v) : a.block < w.heap.size := by
  unfold World.cell? at h
  by_cases hb : a.block < w.heap.size
  · exact hb
  · rw [Array.getElem?_eq_none (by omega)] at h
    simp at h
theorem Zone.of_below {L H : Nat} {w w' : World} (h : Below w.heap.size w w') : Zone L H w w' := by
  have hc : ∀ (a : Addr) (v : Value), w.cell? a = some v → w'.cell? a = some v := fun a v e => (World.cell?_of_block (h.block a.block (cell_lt e))).trans e
  exact ⟨h.os, h.tape, h.output, h.size, fun k hk _ => h.block k hk, fun a ha => World.frozen?_of_block (h.block a.block ha), fun a A n c e => hc a _ e, fun a x e => ⟨x, hc a _ e⟩, fun a s e => ⟨s, hc a _ e⟩⟩
theorem Zone.setInt {L H : Nat} {w : World} {p : Addr} {y : Int} (x : Int) (hp : w.cell? p = some (.int .i64 y)) (h1 : L ≤ p.block) (h2 : p.block < H) : Zone L H w (w.setCell p (.int .i64 x)) := by
  have hn : ∀ (a : Addr) (v : Value), a ≠ p → w.cell? a = some v → (w.setCell p (.int .i64 x)).cell? a = some v := fun a v ha e => (World.cell?_setCell_other _ _ _ _ (Ne.symm ha)).trans e
  refine ⟨rfl, rfl, rfl, by simp, fun k hk ho => ?_, fun a _ => World.frozen?_setCell _ _ _ _, fun a A n c e => ?_, fun a z e => ?_, fun a s e => ?_⟩
  · simp only [World.setCell, Array.getElem?_modify]
    rw [if_neg (by omega)]
  · exact hn a _ (fun ea => by rw [ea, hp] at e; simp at e) e
  · by_cases ea : a = p
    · subst ea; exact ⟨x, World.cell?_setCell_same _ _ _ e⟩
    · exact ⟨z, hn a _ ea e⟩
  · exact ⟨s, hn a _ (fun ea => by rw [ea, hp] at e; simp at e) e⟩
theorem Zone.setStr {L H : Nat} {w : World} {p : Addr} {y : ByteArray} (x : ByteArray) (hp : w.cell? p = some (.string y)) (h1 : L ≤ p.block) (h2 : p.block < H) : Zone L H w (w.setCell p (.string x)) := by
  have hn : ∀ (a : Addr) (v : Value), a ≠ p → w.cell? a = some v → (w.setCell p (.string x)).cell? a = some v := fun a v ha e => (World.cell?_setCell_other _ _ _ _ (Ne.symm ha)).trans e
  refine ⟨rfl, rfl, rfl, by simp, fun k hk ho => ?_, fun a _ => World.frozen?_setCell _ _ _ _, fun a A n c e => ?_, fun a z e => ?_, fun a s e => ?_⟩
  · simp only [World.setCell, Array.getElem?_modify]
    rw [if_neg (by omega)]
  · exact hn a _ (fun ea => by rw [ea, hp] at e; simp at e) e
  · exact ⟨z, hn a _ (fun ea => by rw [ea, hp] at e; simp at e) e⟩
  · by_cases ea : a = p
    · subst ea; exact ⟨x, World.cell?_setCell_same _ _ _ e⟩
    · exact ⟨s, hn a _ ea e⟩
theorem Zone.below {L H B : Nat} {a w w' : World} (hb : Below B a w) (h : Zone L H w w') (hB : B ≤ w.heap.size) (hL : B ≤ L) : Below B a w' :=
  ⟨h.os.trans hb.os, h.tape.trans hb.tape, h.output.trans hb.output, Nat.le_trans hb.size h.size, fun k hk => (h.block k (by omega) (.inl (by omega))).trans (hb.block k hk)⟩
theorem WInts.zone {L H : Nat} {w w' : World} {A : Option Addr} {n : Nat} (h : WInts L H w A n) (z : Zone L H w w') : WInts L H w' A n := by
  intro hn
  obtain ⟨g, e, h1, h2, hc⟩ := h hn
  refine ⟨g, e, h1, h2, fun j hj => ?_⟩
  obtain ⟨⟨y, k0⟩, k1⟩ := hc j hj
  exact ⟨z.num _ _ k0, (z.fz _ (cell_lt k0)).trans k1⟩
theorem WNest.zone {L H : Nat} {w w' : World} {A : Option Addr} {xss : List (List Int)} (h : WNest L H w A xss) (z : Zone L H w w') : WNest L H w' A xss := by
  intro hn
  obtain ⟨b, o, e, h1, h2, hc⟩ := h hn
  refine ⟨b, o, e, h1, h2, fun k hk => ?_⟩
  obtain ⟨A', c, k0, k1⟩ := hc k hk
  exact ⟨A', c, z.sl _ _ _ _ k0, k1.zone z⟩
theorem WFan.zone {L H : Nat} {w w' : World} {b o : Nat} {x : Fa} (h : WFan L H w b o x) (z : Zone L H w w') : WFan L H w' b o x := by
  obtain ⟨⟨s, k0⟩, ⟨y, k1⟩, f0, f1, A', c, k2, k3⟩ := h
  exact ⟨z.str _ _ k0, z.num _ _ k1, (z.fz _ (cell_lt k0)).trans f0, (z.fz _ (cell_lt k1)).trans f1, A', c, z.sl _ _ _ _ k2, k3.zone z⟩
theorem markInt64S_z (L H : Nat) (A : Option Addr) (c n : Nat) (k : Int) (w : World) (h1 : 0 ≤ k) (h2 : k + n ≤ 1099511627776) (hw : WInts L H w A n) :
    Calls Tryz.prog 20 #[.slice A n c, .int .i64 k] w fun e w' => e = .returned (.int .i64 (k + n)) ∧ Zone L H w w' := by
  have HW := Lib.hid hw
  clear hw
  go_enter Tryz.func20, Tryz.ntmps20
  go_wp2
  go_loopw [1, 5] (fun q i wr => ∃ j : Nat, j ≤ n ∧ i = .int .i64 j ∧ q = .int .i64 (k + j) ∧ Zone L H w wr) (fun _ i _ => n - (intOf i).toNat)
  case atStart => exact ⟨0, Nat.zero_le _, rfl, by go_num, Zone.refl _ _ _⟩
  case round =>
    obtain ⟨j, hj, rfl, rfl, hz⟩ := hrel
    have HZ := Lib.hid hz
    by_cases hlt : j < n
    · obtain ⟨g, rfl, g1, g2, hc⟩ := HW.out.zone hz (by omega)
      obtain ⟨⟨y, hold⟩, hfz⟩ := hc j hlt
      have HO := Lib.hid hold
      clear hz hc
      go_wp2
      go_roundw
      case rel => exact ⟨j + 1, by omega, by go_num, by go_num, HZ.out.trans (Zone.setInt _ HO.out g1 g2)⟩
      case measure => simp [intOf]; omega
    · obtain rfl : j = n := by omega
      clear hz
      go_wp2
      go_ret
      exact ⟨rfl, HZ.out⟩
set_option maxRecDepth 100000 in
theorem markInt64SS_z (L H : Nat) (A : Option Addr) (c : Nat) (xss : List (List Int)) (k : Int) (w : World) (hn : xss.length ≤ 1048576) (h1 : 0 ≤ k) (h2 : k + totLen xss xss.length ≤ 1099511627776) (hw : WNest L H w A xss) :
    Calls Tryz.prog 47 #[.slice A xss.length c, .int .i64 k] w fun e w' => e = .returned (.int .i64 (k + totLen xss xss.length)) ∧ Zone L H w w' := by
  have HW := Lib.hid hw
  have HN := Lib.hid (totLen_nonneg xss)
  have HM := Lib.hid (totLen_mono xss)
  clear hw
  generalize hT : totLen xss xss.length = T at *
  have HT := Lib.hid hT
  clear hT
  go_enter Tryz.func47, Tryz.ntmps47
  go_wp2
  go_loopw [1, 5] (fun q i wr => ∃ j : Nat, j ≤ xss.length ∧ i = .int .i64 j ∧ q = .int .i64 (k + totLen xss j) ∧ Zone L H w wr) (fun _ i _ => xss.length - (intOf i).toNat)
  case atStart => exact ⟨0, Nat.zero_le _, rfl, by simp [totLen], Zone.refl _ _ _⟩
  case round =>
    obtain ⟨j, hj, rfl, rfl, hz⟩ := hrel
    have HZ := Lib.hid hz
    by_cases hlt : j < xss.length
    · obtain ⟨b, o, rfl, -, -, hc⟩ := HW.out.zone hz (by omega)
      obtain ⟨A', c', k0, k1⟩ := hc j hlt
      have hs : totLen xss (j + 1) = totLen xss j + (xss.getD j []).length := rfl
      rw [getD_il hlt] at hs
      have hm : totLen xss (j + 1) ≤ T := by
        have := HM.out (xss.length - (j + 1)) (j + 1)
        rw [show j + 1 + (xss.length - (j + 1)) = xss.length by omega, HT.out] at this
        exact this
      have hz0 := HN.out j
      have HS := Lib.hid hs
      rw [hs] at hm
      generalize totLen xss j = t at *
      generalize hl : xss[j].length = ln at *
      have HC := Lib.hid (markInt64S_z L H A' c' ln (k + t) wr (by omega) (by omega) k1)
      have i0 : (0 : Int) ≤ (j : Int) := by omega
      have i1 : (j : Int) < xss.length := by omega
      clear hz hc k1 hs hl
      go_wp2_with fail
      refine HC.out.mono ?_
      rintro e w2 ⟨rfl, hz2⟩
      go_wp2_with fail
      go_roundw
      case rel => exact ⟨j + 1, by omega, by go_num, by rw [HS.out]; go_num, HZ.out.trans hz2⟩
      case measure => simp [intOf]; omega
    · obtain rfl : j = xss.length := by omega
      rw [HT.out]
      clear hz
      go_wp2
      go_ret
      exact ⟨rfl, HZ.out⟩
/-- How many marks the first k fans take. -/
def cntF (xs : List Fa) : Nat → Int | 0 => 0 | k + 1 => cntF xs k + 2 + totLen (xs.getD k nFa).cv (xs.getD k nFa).cv.length
theorem cntF_nonneg (xs : List Fa) : ∀ k, 0 ≤ cntF xs k
  | 0 => by simp [cntF]
  | k + 1 => by have := cntF_nonneg xs k; have := totLen_nonneg (xs.getD k nFa).cv (xs.getD k nFa).cv.length; unfold cntF; omega
theorem cntF_mono (xs : List Fa) : ∀ (d k : Nat), cntF xs k ≤ cntF xs (k + d)
  | 0, k => Int.le_refl _
  | d + 1, k => by have := cntF_mono xs d k; have e : cntF xs (k + (d + 1)) = cntF xs (k + d) + 2 + totLen (xs.getD (k + d) nFa).cv (xs.getD (k + d) nFa).cv.length := rfl; have := totLen_nonneg (xs.getD (k + d) nFa).cv (xs.getD (k + d) nFa).cv.length; omega
theorem cntF_st (xs : List Fa) (left : Int) : ∀ k : Nat, 0 ≤ stF xs left k → cntF xs k ≤ 2 * (k : Int) + left - stF xs left k
  | 0, _ => by unfold cntF stF; omega
  | k + 1, h => by
    have e : stF xs left (k + 1) = if stF xs left k < 0 then -1 else szFa (xs.getD k nFa) (stF xs left k) := rfl
    by_cases h0 : stF xs left k < 0
    · rw [e, if_pos h0] at h; omega
    · have ih := cntF_st xs left k (by omega)
      rw [if_neg h0] at e
      unfold szFa at e
      by_cases h1 : stF xs left k < (xs.getD k nFa).id.size
      · rw [if_pos h1] at e; omega
      · rw [if_neg h1] at e
        unfold szL at e
        have e2 : cntF xs (k + 1) = cntF xs k + 2 + totLen (xs.getD k nFa).cv (xs.getD k nFa).cv.length := rfl
        by_cases h2 : ((xs.getD k nFa).cv.length : Int) + totLen (xs.getD k nFa).cv (xs.getD k nFa).cv.length ≤ stF xs left k - (xs.getD k nFa).id.size
        · rw [if_pos h2] at e; omega
        · rw [if_neg h2] at e; omega
theorem cntF_sz (xs : List Fa) (left : Int) (h : 0 ≤ szF xs left) : cntF xs xs.length ≤ 2 * (xs.length : Int) + left := by
  unfold szF at h
  by_cases h0 : stF xs left xs.length < 0
  · rw [if_pos h0] at h; omega
  · have := cntF_st xs left xs.length (by omega); omega
set_option maxRecDepth 100000 in
set_option maxHeartbeats 800000 in
theorem markFanS_z (L H : Nat) (A : Option Addr) (c : Nat) (xs : List Fa) (k : Int) (w : World) (hn : xs.length ≤ 1048576) (hl : FansLen xs) (h1 : 1 ≤ k) (h2 : k + cntF xs xs.length ≤ 1099511627776) (hw : WFans L H w A xs) :
    Calls Tryz.prog 21 #[.slice A xs.length c, .int .i64 k] w fun e w' => e = .returned (.int .i64 (k + cntF xs xs.length)) ∧ Zone L H w w' := by
  have HW := Lib.hid hw
  have HL := Lib.hid hl
  have HN := Lib.hid (cntF_nonneg xs)
  have HM := Lib.hid (cntF_mono xs)
  clear hw hl
  generalize hT : cntF xs xs.length = T at *
  have HT := Lib.hid hT
  clear hT
  go_enter Tryz.func21, Tryz.ntmps21
  go_wp2
  go_loopw [1, 5] (fun q i wr => ∃ j : Nat, j ≤ xs.length ∧ i = .int .i64 j ∧ q = .int .i64 (k + cntF xs j) ∧ Zone L H w wr) (fun _ i _ => xs.length - (intOf i).toNat)
  case atStart => exact ⟨0, Nat.zero_le _, rfl, by simp [cntF], Zone.refl _ _ _⟩
  case round =>
    obtain ⟨j, hj, rfl, rfl, hz⟩ := hrel
    have HZ := Lib.hid hz
    by_cases hlt : j < xs.length
    · obtain ⟨g, rfl, g1, g2, hc⟩ := HW.out (by omega)
      have hf := (hc j hlt).zone hz
      have HFN := Lib.hid hf
      obtain ⟨⟨s, k0⟩, ⟨y, k1⟩, f0, f1, A', c', k2, k3⟩ := hf
      have hll : (xs.getD j nFa).cv.length ≤ 1048576 := by
        have := HL.out _ (List.getElem_mem hlt)
        rw [← getD_fa hlt] at this
        exact this.1
      have hs : cntF xs (j + 1) = cntF xs j + 2 + totLen (xs.getD j nFa).cv (xs.getD j nFa).cv.length := rfl
      have hm : cntF xs (j + 1) ≤ T := by
        have := HM.out (xs.length - (j + 1)) (j + 1)
        rw [show j + 1 + (xs.length - (j + 1)) = xs.length by omega, HT.out] at this
        exact this
      have hz0 := HN.out j
      have ht0 := totLen_nonneg (xs.getD j nFa).cv (xs.getD j nFa).cv.length
      have HS := Lib.hid hs
      rw [hs] at hm
      generalize xs.getD j nFa = x at *
      generalize cntF xs j = t at *
      obtain ⟨xid, xaw, cv⟩ := x
      dsimp only at *
      have hcv := hs
      generalize hq : totLen cv cv.length = tl at *
      have HQ := Lib.hid hq
      have HD := Lib.hid (markText_any (k + t) wr (by omega) (by omega))
      have i0 : (0 : Int) ≤ (j : Int) := by omega
      have i1 : (j : Int) < xs.length := by omega
      clear hz hc k0 k1 k2 k3 f0 f1 hs hcv hq
      go_wp2_with fail
      refine HD.out.mono ?_
      rintro e w2 ⟨st, rfl, -, hb2⟩
      have hz2 : Zone L H wr w2 := Zone.of_below hb2
      have hf2 := HFN.out.zone hz2
      have HZ2 := Lib.hid (HZ.out.trans hz2)
      obtain ⟨⟨s2, k0⟩, ⟨y2, k1⟩, f0, f1, A2, c2, k2, -⟩ := hf2
      have z3 : Zone L H w2 (w2.setCell ⟨g, j * 3, none⟩ (.string st)) := Zone.setStr st k0 g1 g2
      obtain ⟨y3, k3⟩ := z3.num _ _ k1
      have f3 := (z3.fz ⟨g, j * 3 + 1, none⟩ (cell_lt k1)).trans f1
      have k4 := z3.sl _ _ _ _ k2
      have z4 : Zone L H (w2.setCell ⟨g, j * 3, none⟩ (.string st)) ((w2.setCell ⟨g, j * 3, none⟩ (.string st)).setCell ⟨g, j * 3 + 1, none⟩ (.int .i64 (k + t + 1))) := Zone.setInt _ k3 g1 g2
      have k5 := z4.sl _ _ _ _ k4
      have HZ4 := Lib.hid (HZ2.out.trans (z3.trans z4))
      have hfw := HFN.out.zone (hz2.trans (z3.trans z4))
      obtain ⟨-, -, -, -, A5, c5, k6, wn⟩ := hfw
      have e6 := k6.symm.trans k5
      injection e6 with e6
      injection e6 with e6 e7 e8
      subst e6 e8
      have HWN := Lib.hid wn
      clear z3 z4 k6 wn hz2
      go_wp2_with fail
      have HC := markInt64SS_z L H A5 c5 cv (k + t + 1 + 1) _ hll (by omega) (by rw [HQ.out]; omega) HWN.out
      rw [HQ.out] at HC
      refine HC.mono ?_
      rintro e w5 ⟨rfl, hz5⟩
      go_wp2_with fail
      go_roundw
      case rel => exact ⟨j + 1, by omega, by go_num, by rw [HS.out]; go_num, HZ4.out.trans hz5⟩
      case measure => simp [intOf]; omega
    · obtain rfl : j = xs.length := by omega
      rw [HT.out]
      clear hz
      go_wp2
      go_ret
      exact ⟨rfl, HZ.out⟩
end Go.Proofs.YtejkoicgbgoiaaaGreat

/- Fans: when one is valid, by the program and by the reference. Conditions: the facts on memory and on lengths that each theorem names. Printed by gen_fan.py. -/
namespace Go.Proofs.YtejkoicgbgoiaaaGreat
open Go.RowKit
open Pl
def at2 (cv : List (List Int)) (q i : Nat) : Int := (cv.getD q []).getD i 0
def stepB (cv : List (List Int)) (q : Nat) : Bool := decide (q = 0) || (!decide (at2 cv q 0 ≤ at2 cv (q - 1) 0) && !decide (at2 cv (q - 1) 1 < at2 cv q 1))
def ptP (cv : List (List Int)) (q : Nat) : Bool := decide ((cv.getD q []).length = 2) && (inB (at2 cv q 0) 0 100000 && (inB (at2 cv q 1) 0 10000 && stepB cv q))
def curveB (cv : List (List Int)) : Bool := (decide ((2 : Int) ≤ cv.length) && decide ((cv.length : Int) ≤ 8)) && allUp (ptP cv) cv.length
noncomputable def fanB (f : Fa) : Bool := nameB f.id && (inB f.aw 0 23 && curveB f.cv)
theorem stepB_succ (cv : List (List Int)) (k : Nat) : stepB cv (k + 1) = (!decide (at2 cv (k + 1) 0 ≤ at2 cv k 0) && !decide (at2 cv k 1 < at2 cv (k + 1) 1)) := by unfold stepB; simp
theorem Nest.pair {B : Nat} {w : World} {A : Option Addr} {xss : List (List Int)} (h : Nest B w A xss) {k : Nat} (hk : k < xss.length) {x y : Int} (e : xss.getD k [] = [x, y]) :
    ∃ b o b' o' c, A = some ⟨b, o, none⟩ ∧ b < B ∧ b' < B ∧ w.cell? ⟨b, o + k, none⟩ = some (.slice (some ⟨b', o', none⟩) 2 c) ∧ w.cell? ⟨b', o', none⟩ = some (.int .i64 x) ∧ w.cell? ⟨b', o' + 1, none⟩ = some (.int .i64 y) := by
  obtain ⟨b, o, ea, hb, A', c, hc, hi⟩ := h.atD hk
  rw [e] at hc hi
  obtain ⟨ad, ead, hlt, hcc⟩ := hi (by simp)
  have h0 := hcc 0 (by simp)
  have h1 := hcc 1 (by simp)
  rw [show ad.add 0 = ad by simp [Addr.add]] at h0
  have hs := cell_spot h0
  obtain ⟨b', o', s⟩ := ad
  simp only at hs
  subst hs
  subst ead
  rw [Addr.add_lit] at h1
  exact ⟨b, o, b', o', c, ea, hb, hlt, hc, h0, h1⟩
theorem pair_of {l : List Int} (h : l.length = 2) : ∃ x y, l = [x, y] := by
  match l, h with
  | [x, y], _ => exact ⟨x, y, rfl⟩
set_option maxRecDepth 100000 in
set_option maxHeartbeats 3200000 in
theorem l06Curve_any (A : Option Addr) (c : Nat) (cv : List (List Int)) (B : Nat) (w : World) (hn : (cv.length : Int) ≤ 1099511627776) (hI : Nest B w A cv) :
    Calls Tryz.prog 140 #[.slice A cv.length c] w fun e w' => e = .returned (.bool (curveB cv)) ∧ ∃ n, w.drewN n = w' := by
  obtain ⟨R, hR⟩ : ∃ R, R = curveB cv := ⟨_, rfl⟩
  rw [← hR]
  have HR := Lib.hid hR
  clear hR
  have J0 := Lib.hid hI
  clear hI
  obtain ⟨m, m1, m2, m3⟩ := first_stop (ptP cv) cv.length
  have HM : Hid (curveB cv = ((decide ((2 : Int) ≤ cv.length) && decide ((cv.length : Int) ≤ 8)) && decide (m = cv.length))) := Lib.hid (by unfold curveB; rw [allUp_stop m1 m2 m3])
  have M2 := Lib.hid m2
  have M3 := Lib.hid m3
  clear m2 m3
  go_enter Tryz.func140, Tryz.ntmps140
  go_wp2
  go_loopw [3] (fun i wr => ∃ q : Nat, q ≤ m ∧ i = .int .i64 q ∧ ∃ n, w.drewN n = wr) (fun i _ => cv.length - (intOf i).toNat)
  case atStart => exact ⟨0, Nat.zero_le _, rfl, 0, rfl⟩
  case round =>
    obtain ⟨q, hq, rfl, n, rfl⟩ := hrel
    by_cases hlt : q < cv.length
    · have i0 : (0 : Int) ≤ (q : Int) := by omega
      have i1 : (q : Int) < cv.length := by omega
      have HT : Hid (ptP cv q = true → q + 1 ≤ m) := Lib.hid (fun h => by
        rcases Nat.lt_or_ge q m with h' | h'
        · exact h'
        · have e : m = q := by omega
          have := M3.out (by omega)
          rw [e, h] at this; cases this)
      have HFa : Hid (ptP cv q = false → decide (m = cv.length) = false) := Lib.hid (fun h => decide_eq_false (by
        intro e
        have := M2.out q (by omega)
        rw [h] at this; cases this))
      have HPq : Hid (ptP cv q = (decide ((cv.getD q []).length = 2) && (inB (at2 cv q 0) 0 100000 && (inB (at2 cv q 1) 0 10000 && stepB cv q)))) := Lib.hid rfl
      have HPr : Hid (∀ p, p < q → (cv.getD p []).length = 2) := Lib.hid (fun p hp => by
        have := M2.out p (by omega)
        unfold ptP at this
        rw [Bool.and_eq_true] at this
        exact of_decide_eq_true this.1)
      by_cases h2 : (cv.getD q []).length = 2
      rotate_left
      · have HD := Lib.hid (HFa.out (by rw [HPq.out, decide_eq_false h2]; rfl))
        obtain ⟨b, o, rfl, -, A', c', hc, -⟩ := J0.out.atD hlt
        have h2b : (((cv.getD q []).length : Int) == 2) = false := by rw [beq_eq_false_iff_ne]; omega
        generalize (cv.getD q []).length = ln at *
        have HX := Lib.hid (fun W => l00In_any 0 0 100000 W)
        have h2n : ((ln : Int) != 2) = true := by rw [bne, h2b]; rfl
        clear h2 h2b
        go_wp2
        go_big_quiet ((go_at_call 67; first | (with_reducible exact quiet_s (HX.out _)) | (with_reducible exact quiet_s2 (HX.out _))))
        go_wp2
        go_ret
        exact ⟨ret_bool (by rw [HR.out, HM.out, HD.out, Bool.and_false]), _, (World.drewN_drewN _ _ _).symm⟩
      obtain ⟨x, y, hxy⟩ := pair_of h2
      have hx0 : at2 cv q 0 = x := by unfold at2; rw [hxy]; rfl
      have hx1 : at2 cv q 1 = y := by unfold at2; rw [hxy]; rfl
      obtain ⟨b, o, b1, o1, c1, rfl, -, -, hc, c0, c1'⟩ := J0.out.pair hlt hxy
      rw [decide_eq_true h2, hx0, hx1, Bool.true_and] at HPq
      have HX := Lib.hid (fun W => l00In_any x 0 100000 W)
      have HY := Lib.hid (fun W => l00In_any y 0 10000 W)
      clear h2
      cases p1 : inB x 0 100000
      · rw [p1] at HX
        have HD := Lib.hid (HFa.out (by rw [HPq.out, p1]; rfl))
        clear p1 hxy hx0 hx1
        go_wp2
        go_big_quiet (first | (go_at_call 67; first | (with_reducible exact quiet_s (HX.out _)) | (with_reducible exact quiet_s2 (HX.out _))) | (go_at_call 67; first | (with_reducible exact quiet_s (HY.out _)) | (with_reducible exact quiet_s2 (HY.out _))))
        go_wp2
        go_ret
        exact ⟨ret_bool (by rw [HR.out, HM.out, HD.out, Bool.and_false]), _, (World.drewN_drewN _ _ _).symm⟩
      rw [p1] at HX
      cases p2 : inB y 0 10000
      · rw [p2] at HY
        have HD := Lib.hid (HFa.out (by rw [HPq.out, p1, p2]; rfl))
        clear p1 p2 hxy hx0 hx1
        go_wp2
        go_big_quiet (first | (go_at_call 67; first | (with_reducible exact quiet_s (HX.out _)) | (with_reducible exact quiet_s2 (HX.out _))) | (go_at_call 67; first | (with_reducible exact quiet_s (HY.out _)) | (with_reducible exact quiet_s2 (HY.out _))))
        go_wp2
        go_ret
        exact ⟨ret_bool (by rw [HR.out, HM.out, HD.out, Bool.and_false]), _, (World.drewN_drewN _ _ _).symm⟩
      rw [p2] at HY
      rw [p1, p2, Bool.true_and, Bool.true_and] at HPq
      by_cases hq0 : q = 0
      · have hz0 : decide (0 < q) = false := decide_eq_false (by omega)
        have HG := Lib.hid (HT.out (by rw [HPq.out]; unfold stepB; rw [decide_eq_true hq0]; rfl))
        clear p1 p2 hxy hx0 hx1 hq0
        go_wp2
        go_big_quiet (first | (go_at_call 67; first | (with_reducible exact quiet_s (HX.out _)) | (with_reducible exact quiet_s2 (HX.out _))) | (go_at_call 67; first | (with_reducible exact quiet_s (HY.out _)) | (with_reducible exact quiet_s2 (HY.out _))))
        go_wp2
        go_roundw
        case rel => exact ⟨q + 1, HG.out, by go_num, _, rfl⟩
        case measure => simp [intOf]; omega
      · obtain ⟨p, hpq⟩ : ∃ p, q = p + 1 := ⟨q - 1, by omega⟩
        have hz0 : decide (0 < q) = true := decide_eq_true (by omega)
        obtain ⟨x', y', hxy'⟩ := pair_of (HPr.out p (by omega))
        obtain ⟨b', o', b2, o2, c2, hbo, -, -, hd, d0, d1⟩ := J0.out.pair (k := p) (by omega) hxy'
        cases hbo
        have hs : stepB cv q = (!decide (x ≤ x') && !decide (y' < y)) := by
          have hx0' : at2 cv p 0 = x' := by unfold at2; rw [hxy']; rfl
          have hx1' : at2 cv p 1 = y' := by unfold at2; rw [hxy']; rfl
          rw [hpq, stepB_succ, ← hpq, hx0, hx1, hx0', hx1']
        rw [hs] at HPq
        have w0 : (0 : Int) ≤ (p : Int) := by omega
        have w1 : (p : Int) < cv.length := by omega
        have hw : IntKind.i64.wrap ((q : Int) - 1) = (p : Int) := by rw [IntWalk.i64_in _ (by omega)]; omega
        clear p1 p2 hxy hx0 hx1 hq0 hxy' hs hpq
        cases k1 : decide (x ≤ x')
        rotate_left
        · have HD := Lib.hid (HFa.out (by rw [HPq.out, k1]; rfl))
          go_wp2
          go_big_quiet (first | (go_at_call 67; first | (with_reducible exact quiet_s (HX.out _)) | (with_reducible exact quiet_s2 (HX.out _))) | (go_at_call 67; first | (with_reducible exact quiet_s (HY.out _)) | (with_reducible exact quiet_s2 (HY.out _))))
          go_wp2
          clear hw
          go_ret
          exact ⟨ret_bool (by rw [HR.out, HM.out, HD.out, Bool.and_false]), _, (World.drewN_drewN _ _ _).symm⟩
        cases k2 : decide (y' < y)
        rotate_left
        · have HD := Lib.hid (HFa.out (by rw [HPq.out, k1, k2]; rfl))
          go_wp2
          go_big_quiet (first | (go_at_call 67; first | (with_reducible exact quiet_s (HX.out _)) | (with_reducible exact quiet_s2 (HX.out _))) | (go_at_call 67; first | (with_reducible exact quiet_s (HY.out _)) | (with_reducible exact quiet_s2 (HY.out _))))
          go_wp2
          clear hw
          go_ret
          exact ⟨ret_bool (by rw [HR.out, HM.out, HD.out, Bool.and_false]), _, (World.drewN_drewN _ _ _).symm⟩
        have HG := Lib.hid (HT.out (by rw [HPq.out, k1, k2]; rfl))
        go_wp2
        go_big_quiet (first | (go_at_call 67; first | (with_reducible exact quiet_s (HX.out _)) | (with_reducible exact quiet_s2 (HX.out _))) | (go_at_call 67; first | (with_reducible exact quiet_s (HY.out _)) | (with_reducible exact quiet_s2 (HY.out _))))
        go_wp2
        clear hw
        go_roundw
        case rel => exact ⟨q + 1, HG.out, by go_num, _, rfl⟩
        case measure => simp [intOf]; omega
    · have HD := Lib.hid (decide_eq_true (show m = cv.length by omega))
      by_cases h2 : (2 : Int) ≤ cv.length
      · have H2 := Lib.hid (decide_eq_true h2)
        by_cases h8 : (cv.length : Int) ≤ 8
        · have H8 := Lib.hid (decide_eq_true h8)
          go_wp2
          go_ret
          exact ⟨ret_bool (by rw [HR.out, HM.out, HD.out, H2.out, H8.out]; rfl), _, rfl⟩
        · have H8 := Lib.hid (decide_eq_false h8)
          go_wp2
          go_ret
          exact ⟨ret_bool (by rw [HR.out, HM.out, HD.out, H2.out, H8.out]; rfl), _, rfl⟩
      · have H2 := Lib.hid (decide_eq_false h2)
        go_wp2
        go_ret
        exact ⟨ret_bool (by rw [HR.out, HM.out, HD.out, H2.out]; rfl), _, rfl⟩
theorem l06Ok_any (b o : Nat) (s : ByteArray) (a : Int) (A : Option Addr) (c : Nat) (cv : List (List Int)) (B : Nat) (w : World) (hs : s.size ≤ maxLen) (hn : (cv.length : Int) ≤ 1099511627776) (hI : Nest B w A cv) (c0 : w.cell? ⟨b, o, none⟩ = some (.string s)) (c1 : w.cell? ⟨b, o + 1, none⟩ = some (.int .i64 a)) (c2 : w.cell? ⟨b, o + 2, none⟩ = some (.slice A cv.length c)) :
    Calls Tryz.prog 107 #[.pointer (some ⟨b, o, none⟩)] w fun e w' => e = .returned (.bool (fanB ⟨s, a, cv⟩)) ∧ ∃ n, w.drewN n = w' := by
  have HC := Lib.hid (l06Curve_any A c cv B w hn hI)
  unfold fanB
  dsimp only
  clear hI
  cases h0 : nameB s
  · go_enter Tryz.func107, Tryz.ntmps107
    go_wp2_with (first | (go_at_call 67; refine (l00In_any _ _ _ _).mono ?_; rintro e w' ⟨rfl, rfl⟩) | (go_at_call 139; refine (l01Name_any _ _ hs).mono ?_; rintro e w' ⟨rfl, rfl⟩))
    go_ret
    exact ⟨rfl, 0, rfl⟩
  · cases h1 : inB a 0 23
    · go_enter Tryz.func107, Tryz.ntmps107
      go_wp2_with (first | (go_at_call 67; refine (l00In_any _ _ _ _).mono ?_; rintro e w' ⟨rfl, rfl⟩) | (go_at_call 139; refine (l01Name_any _ _ hs).mono ?_; rintro e w' ⟨rfl, rfl⟩))
      go_ret
      exact ⟨rfl, 0, rfl⟩
    · obtain ⟨h1a, h1b⟩ := inB_iff.1 h1
      generalize curveB cv = r at *
      go_enter Tryz.func107, Tryz.ntmps107
      go_wp2_with (first | (go_at_call 67; refine (l00In_any _ _ _ _).mono ?_; rintro e w' ⟨rfl, rfl⟩) | (go_at_call 139; refine (l01Name_any _ _ hs).mono ?_; rintro e w' ⟨rfl, rfl⟩))
      refine HC.out.mono ?_
      rintro e w2 ⟨rfl, n, rfl⟩
      go_wp2
      go_ret
      exact ⟨rfl, _, rfl⟩
set_option maxRecDepth 100000 in
set_option maxHeartbeats 3200000 in
theorem ValidFan_i (s : ByteArray) (a : Int) (A : Option Addr) (c : Nat) (cv : List (List Int)) (B : Nat) (w : World) (hs : s.size ≤ maxLen) (hn : (cv.length : Int) ≤ 1099511627776) (hI : Nest B w A cv) (hB : B ≤ w.heap.size) :
    Calls Tryz.prog 73 #[.agg #[.string s, .int .i64 a, .slice A cv.length c]] w fun e w' => e = .returned (.bool (fanB ⟨s, a, cv⟩)) ∧ Below w.heap.size w w' := by
  obtain ⟨R, hR⟩ : ∃ R, R = fanB ⟨s, a, cv⟩ := ⟨_, rfl⟩
  rw [← hR]
  have HR := Lib.hid hR
  clear hR
  have HFB : Hid (fanB ⟨s, a, cv⟩ = (nameB s && (inB a 0 23 && ((decide ((2 : Int) ≤ cv.length) && decide ((cv.length : Int) ≤ 8)) && allUp (ptP cv) cv.length)))) := Lib.hid rfl
  have be0 : Below w.heap.size w (w.alloc (.cells #[.string s, .int .i64 a, .slice A cv.length c] 74)) := by go_grown
  have J0 := Lib.hid ((hI.more hB).below be0)
  have b2 : ((w.alloc (.cells #[.string s, .int .i64 a, .slice A cv.length c] 74))).cell? ⟨w.heap.size, 2, none⟩ = some (.slice A cv.length c) := by go_simp
  clear hI
  cases h0 : nameB s
  · have HN := Lib.hid (show fanB ⟨s, a, cv⟩ = false by rw [HFB.out, h0]; rfl)
    go_enter Tryz.func73, Tryz.ntmps73
    go_wp2_with (first | (go_at_call 43; refine (within_any _ _ _ _).mono ?_; rintro e w' ⟨rfl, rfl⟩) | (go_at_call 103; refine (IsName_any _ _ hs).mono ?_; rintro e w' ⟨rfl, rfl⟩))
    go_ret
    exact ⟨ret_bool (by rw [HR.out, HN.out]), be0⟩
  cases h1 : inB a 0 23
  · have HN := Lib.hid (show fanB ⟨s, a, cv⟩ = false by rw [HFB.out, h0, h1]; rfl)
    go_enter Tryz.func73, Tryz.ntmps73
    go_wp2_with (first | (go_at_call 43; refine (within_any _ _ _ _).mono ?_; rintro e w' ⟨rfl, rfl⟩) | (go_at_call 103; refine (IsName_any _ _ hs).mono ?_; rintro e w' ⟨rfl, rfl⟩))
    go_ret
    exact ⟨ret_bool (by rw [HR.out, HN.out]), be0⟩
  by_cases h2 : (2 : Int) ≤ cv.length
  rotate_left
  · have HN := Lib.hid (show fanB ⟨s, a, cv⟩ = false by rw [HFB.out, h0, h1, decide_eq_false h2]; rfl)
    go_enter Tryz.func73, Tryz.ntmps73
    go_wp2_with (first | (go_at_call 43; refine (within_any _ _ _ _).mono ?_; rintro e w' ⟨rfl, rfl⟩) | (go_at_call 103; refine (IsName_any _ _ hs).mono ?_; rintro e w' ⟨rfl, rfl⟩))
    go_ret
    exact ⟨ret_bool (by rw [HR.out, HN.out]), be0⟩
  by_cases h8 : (cv.length : Int) ≤ 8
  rotate_left
  · have HN := Lib.hid (show fanB ⟨s, a, cv⟩ = false by rw [HFB.out, h0, h1, decide_eq_false h8, Bool.and_false]; rfl)
    go_enter Tryz.func73, Tryz.ntmps73
    go_wp2_with (first | (go_at_call 43; refine (within_any _ _ _ _).mono ?_; rintro e w' ⟨rfl, rfl⟩) | (go_at_call 103; refine (IsName_any _ _ hs).mono ?_; rintro e w' ⟨rfl, rfl⟩))
    go_ret
    exact ⟨ret_bool (by rw [HR.out, HN.out]), be0⟩
  obtain ⟨m, m1, m2, m3⟩ := first_stop (ptP cv) cv.length
  have HM : Hid (fanB ⟨s, a, cv⟩ = decide (m = cv.length)) := Lib.hid (by rw [HFB.out, h0, h1, decide_eq_true h2, decide_eq_true h8, allUp_stop m1 m2 m3]; rfl)
  have M2 := Lib.hid m2
  have M3 := Lib.hid m3
  clear m2 m3 HFB
  go_enter Tryz.func73, Tryz.ntmps73
  go_wp2_with (first | (go_at_call 43; refine (within_any _ _ _ _).mono ?_; rintro e w' ⟨rfl, rfl⟩) | (go_at_call 103; refine (IsName_any _ _ hs).mono ?_; rintro e w' ⟨rfl, rfl⟩))
  generalize (w.alloc (.cells #[.string s, .int .i64 a, .slice A cv.length c] 74)) = v0 at *
  clear h0 h1
  go_loopw [30] (fun i wr => ∃ q : Nat, q ≤ m ∧ i = .int .i64 q ∧ ∃ n, v0.drewN n = wr) (fun i _ => cv.length - (intOf i).toNat)
  case atStart => exact ⟨0, Nat.zero_le _, rfl, 0, rfl⟩
  case round =>
    obtain ⟨q, hq, rfl, n, rfl⟩ := hrel
    by_cases hlt : q < cv.length
    · have i0 : (0 : Int) ≤ (q : Int) := by omega
      have i1 : (q : Int) < cv.length := by omega
      have HT : Hid (ptP cv q = true → q + 1 ≤ m) := Lib.hid (fun h => by
        rcases Nat.lt_or_ge q m with h' | h'
        · exact h'
        · have e : m = q := by omega
          have := M3.out (by omega)
          rw [e, h] at this; cases this)
      have HFa : Hid (ptP cv q = false → decide (m = cv.length) = false) := Lib.hid (fun h => decide_eq_false (by
        intro e
        have := M2.out q (by omega)
        rw [h] at this; cases this))
      have HPq : Hid (ptP cv q = (decide ((cv.getD q []).length = 2) && (inB (at2 cv q 0) 0 100000 && (inB (at2 cv q 1) 0 10000 && stepB cv q)))) := Lib.hid rfl
      have HPr : Hid (∀ p, p < q → (cv.getD p []).length = 2) := Lib.hid (fun p hp => by
        have := M2.out p (by omega)
        unfold ptP at this
        rw [Bool.and_eq_true] at this
        exact of_decide_eq_true this.1)
      by_cases h2 : (cv.getD q []).length = 2
      rotate_left
      · have HD := Lib.hid (HFa.out (by rw [HPq.out, decide_eq_false h2]; rfl))
        obtain ⟨b, o, rfl, -, A', c', hc, -⟩ := J0.out.atD hlt
        have h2b : (((cv.getD q []).length : Int) == 2) = false := by rw [beq_eq_false_iff_ne]; omega
        generalize (cv.getD q []).length = ln at *
        have HX := Lib.hid (fun W => within_any 0 0 100000 W)
        have h2n : ((ln : Int) != 2) = true := by rw [bne, h2b]; rfl
        clear h2 h2b
        go_wp2
        go_big_quiet ((go_at_call 43; first | (with_reducible exact quiet_s (HX.out _)) | (with_reducible exact quiet_s2 (HX.out _))))
        go_wp2
        go_ret
        exact ⟨ret_bool (by rw [HR.out, HM.out, HD.out]), below_drewN (below_drewN be0 _) _⟩
      obtain ⟨x, y, hxy⟩ := pair_of h2
      have hx0 : at2 cv q 0 = x := by unfold at2; rw [hxy]; rfl
      have hx1 : at2 cv q 1 = y := by unfold at2; rw [hxy]; rfl
      obtain ⟨b, o, b1, o1, c1, rfl, -, -, hc, c0, c1'⟩ := J0.out.pair hlt hxy
      rw [decide_eq_true h2, hx0, hx1, Bool.true_and] at HPq
      have HX := Lib.hid (fun W => within_any x 0 100000 W)
      have HY := Lib.hid (fun W => within_any y 0 10000 W)
      clear h2
      cases p1 : inB x 0 100000
      · rw [p1] at HX
        have HD := Lib.hid (HFa.out (by rw [HPq.out, p1]; rfl))
        clear p1 hxy hx0 hx1
        go_wp2
        go_big_quiet (first | (go_at_call 43; first | (with_reducible exact quiet_s (HX.out _)) | (with_reducible exact quiet_s2 (HX.out _))) | (go_at_call 43; first | (with_reducible exact quiet_s (HY.out _)) | (with_reducible exact quiet_s2 (HY.out _))))
        go_wp2
        go_ret
        exact ⟨ret_bool (by rw [HR.out, HM.out, HD.out]), below_drewN (below_drewN be0 _) _⟩
      rw [p1] at HX
      cases p2 : inB y 0 10000
      · rw [p2] at HY
        have HD := Lib.hid (HFa.out (by rw [HPq.out, p1, p2]; rfl))
        clear p1 p2 hxy hx0 hx1
        go_wp2
        go_big_quiet (first | (go_at_call 43; first | (with_reducible exact quiet_s (HX.out _)) | (with_reducible exact quiet_s2 (HX.out _))) | (go_at_call 43; first | (with_reducible exact quiet_s (HY.out _)) | (with_reducible exact quiet_s2 (HY.out _))))
        go_wp2
        go_ret
        exact ⟨ret_bool (by rw [HR.out, HM.out, HD.out]), below_drewN (below_drewN be0 _) _⟩
      rw [p2] at HY
      rw [p1, p2, Bool.true_and, Bool.true_and] at HPq
      by_cases hq0 : q = 0
      · have hz0 : decide (0 < q) = false := decide_eq_false (by omega)
        have HG := Lib.hid (HT.out (by rw [HPq.out]; unfold stepB; rw [decide_eq_true hq0]; rfl))
        clear p1 p2 hxy hx0 hx1 hq0
        go_wp2
        go_big_quiet (first | (go_at_call 43; first | (with_reducible exact quiet_s (HX.out _)) | (with_reducible exact quiet_s2 (HX.out _))) | (go_at_call 43; first | (with_reducible exact quiet_s (HY.out _)) | (with_reducible exact quiet_s2 (HY.out _))))
        go_wp2
        go_roundw
        case rel => exact ⟨q + 1, HG.out, by go_num, _, rfl⟩
        case measure => simp [intOf]; omega
      · obtain ⟨p, hpq⟩ : ∃ p, q = p + 1 := ⟨q - 1, by omega⟩
        have hz0 : decide (0 < q) = true := decide_eq_true (by omega)
        obtain ⟨x', y', hxy'⟩ := pair_of (HPr.out p (by omega))
        obtain ⟨b', o', b2, o2, c2, hbo, -, -, hd, d0, d1⟩ := J0.out.pair (k := p) (by omega) hxy'
        cases hbo
        have hs : stepB cv q = (!decide (x ≤ x') && !decide (y' < y)) := by
          have hx0' : at2 cv p 0 = x' := by unfold at2; rw [hxy']; rfl
          have hx1' : at2 cv p 1 = y' := by unfold at2; rw [hxy']; rfl
          rw [hpq, stepB_succ, ← hpq, hx0, hx1, hx0', hx1']
        rw [hs] at HPq
        have w0 : (0 : Int) ≤ (p : Int) := by omega
        have w1 : (p : Int) < cv.length := by omega
        have hw : IntKind.i64.wrap ((q : Int) - 1) = (p : Int) := by rw [IntWalk.i64_in _ (by omega)]; omega
        clear p1 p2 hxy hx0 hx1 hq0 hxy' hs hpq
        cases k1 : decide (x ≤ x')
        rotate_left
        · have HD := Lib.hid (HFa.out (by rw [HPq.out, k1]; rfl))
          go_wp2
          go_big_quiet (first | (go_at_call 43; first | (with_reducible exact quiet_s (HX.out _)) | (with_reducible exact quiet_s2 (HX.out _))) | (go_at_call 43; first | (with_reducible exact quiet_s (HY.out _)) | (with_reducible exact quiet_s2 (HY.out _))))
          go_wp2
          clear hw
          go_ret
          exact ⟨ret_bool (by rw [HR.out, HM.out, HD.out]), below_drewN (below_drewN be0 _) _⟩
        cases k2 : decide (y' < y)
        rotate_left
        · have HD := Lib.hid (HFa.out (by rw [HPq.out, k1, k2]; rfl))
          go_wp2
          go_big_quiet (first | (go_at_call 43; first | (with_reducible exact quiet_s (HX.out _)) | (with_reducible exact quiet_s2 (HX.out _))) | (go_at_call 43; first | (with_reducible exact quiet_s (HY.out _)) | (with_reducible exact quiet_s2 (HY.out _))))
          go_wp2
          clear hw
          go_ret
          exact ⟨ret_bool (by rw [HR.out, HM.out, HD.out]), below_drewN (below_drewN be0 _) _⟩
        have HG := Lib.hid (HT.out (by rw [HPq.out, k1, k2]; rfl))
        go_wp2
        go_big_quiet (first | (go_at_call 43; first | (with_reducible exact quiet_s (HX.out _)) | (with_reducible exact quiet_s2 (HX.out _))) | (go_at_call 43; first | (with_reducible exact quiet_s (HY.out _)) | (with_reducible exact quiet_s2 (HY.out _))))
        go_wp2
        clear hw
        go_roundw
        case rel => exact ⟨q + 1, HG.out, by go_num, _, rfl⟩
        case measure => simp [intOf]; omega
    · have HD := Lib.hid (decide_eq_true (show m = cv.length by omega))
      go_wp2
      go_ret
      exact ⟨ret_bool (by rw [HR.out, HM.out, HD.out]), below_drewN be0 _⟩
end Go.Proofs.YtejkoicgbgoiaaaGreat

/- Lists of fans: when one is valid, by the program and by the reference. Conditions: the facts on memory and on lengths that each theorem names. Printed by gen_fans.py. -/
namespace Go.Proofs.YtejkoicgbgoiaaaGreat
open Go.RowKit
open Pl
def ordF (xs : List Fa) (k : Nat) : Bool := decide (k = 0) || Op.bytesLess (xs.getD (k - 1) nFa).id.toList (xs.getD k nFa).id.toList
noncomputable def fansP (xs : List Fa) (k : Nat) : Bool := fanB (xs.getD k nFa) && ordF xs k
noncomputable def fansB (xs : List Fa) : Bool := decide ((xs.length : Int) ≤ 8) && allUp (fansP xs) xs.length
theorem eqbb {P : Program} {f : FuncId} {args : Array Value} {w : World} {B : Nat} {b b' : Bool} (h : Calls P f args w fun e w' => e = .returned (.bool b) ∧ Below B w w') (hb : b = b') :
    Calls P f args w fun e w' => e = .returned (.bool b') ∧ Below B w w' := by rw [← hb]; exact h
theorem ordF_succ (xs : List Fa) (k : Nat) : ordF xs (k + 1) = Op.bytesLess (xs.getD k nFa).id.toList (xs.getD (k + 1) nFa).id.toList := by unfold ordF; simp
theorem FitsF.id {xs : List Fa} (h : FitsF xs) (k : Nat) : (xs.getD k nFa).id.size ≤ maxLen := by
  by_cases hk : k < xs.length
  · rw [getD_fa hk]; exact (h _ (List.getElem_mem hk)).1
  · rw [show xs.getD k nFa = nFa by simp [List.getD, List.getElem?_eq_none (by omega : xs.length ≤ k)]]; exact Nat.zero_le _
theorem FansLen.cv {xs : List Fa} (h : FansLen xs) {k : Nat} (hk : k < xs.length) : (xs.getD k nFa).cv.length ≤ 1048576 := by rw [getD_fa hk]; exact (h _ (List.getElem_mem hk)).1
set_option maxRecDepth 100000 in
set_option maxHeartbeats 3200000 in
theorem ValidFans_i (A : Option Addr) (c : Nat) (xs : List Fa) (B : Nat) (w : World) (hn : (xs.length : Int) ≤ 1099511627776) (hF : FitsF xs) (hl : FansLen xs) (hI : Fns B w A xs) (hB : B ≤ w.heap.size) :
    Calls Tryz.prog 42 #[.slice A xs.length c] w fun e w' => e = .returned (.bool (fansB xs)) ∧ Below w.heap.size w w' := by
  obtain ⟨R, hR⟩ : ∃ R, R = fansB xs := ⟨_, rfl⟩
  rw [← hR]
  have HR := Lib.hid hR
  clear hR
  have J0 := Lib.hid (hI.more hB)
  have HL := Lib.hid (FitsF.id hF)
  have HV0 := Lib.hid (fun k (hk : k < xs.length) => FansLen.cv hl hk)
  clear hI hF hl
  by_cases h8 : (xs.length : Int) ≤ 8
  rotate_left
  · have HN : Hid (fansB xs = false) := Lib.hid (by unfold fansB; rw [decide_eq_false h8]; rfl)
    go_enter Tryz.func42, Tryz.ntmps42
    go_wp2
    go_ret
    exact ⟨ret_bool (by rw [HR.out, HN.out]), Below.refl _ _⟩
  obtain ⟨m, m1, m2, m3⟩ := first_stop (fansP xs) xs.length
  have HM : Hid (fansB xs = decide (m = xs.length)) := Lib.hid (by unfold fansB; rw [decide_eq_true h8, allUp_stop m1 m2 m3]; rfl)
  have M2 := Lib.hid m2
  have M3 := Lib.hid m3
  clear m2 m3
  go_enter Tryz.func42, Tryz.ntmps42
  go_wp2
  go_loopw [10] (fun i wr => ∃ q : Nat, q ≤ m ∧ i = .int .i64 q ∧ Below w.heap.size w wr) (fun i _ => xs.length - (intOf i).toNat)
  case atStart => exact ⟨0, Nat.zero_le _, rfl, Below.refl _ _⟩
  case round =>
    obtain ⟨q, hq, rfl, hb⟩ := hrel
    by_cases hlt : q < xs.length
    · obtain ⟨⟨s, a, cv⟩, hx⟩ : ∃ x, xs.getD q nFa = x := ⟨_, rfl⟩
      obtain ⟨b, o, A', c', rfl, hab, c0, c1, c2, hI'⟩ := (J0.out.below hb).at_ hlt hx
      have hs : s.size ≤ maxLen := by have := HL.out q; rw [hx] at this; exact this
      have hcl : cv.length ≤ 1048576 := by have := HV0.out q hlt; rw [hx] at this; exact this
      have i0 : (0 : Int) ≤ (q : Int) := by omega
      have i1 : (q : Int) < xs.length := by omega
      have e0 := fun L : Later (wr.alloc (.cells #[.string s, .int .i64 a, .slice A' cv.length c'] 74)) => L.cell (p := ⟨wr.heap.size, 0, none⟩) (v := .string s) (by simp)
      have e1 := fun L : Later (wr.alloc (.cells #[.string s, .int .i64 a, .slice A' cv.length c'] 74)) => L.cell (p := ⟨wr.heap.size, 1, none⟩) (v := .int .i64 a) (by simp)
      have e2 := fun L : Later (wr.alloc (.cells #[.string s, .int .i64 a, .slice A' cv.length c'] 74)) => L.cell (p := ⟨wr.heap.size, 2, none⟩) (v := .slice A' cv.length c') (by simp)
      have hsz := hb.size
      have hba : Below w.heap.size w (wr.alloc (.cells #[.string s, .int .i64 a, .slice A' cv.length c'] 74)) := hb.alloc hb.size _
      have haa : Below wr.heap.size wr (wr.alloc (.cells #[.string s, .int .i64 a, .slice A' cv.length c'] 74)) := (Below.refl _ _).alloc (Nat.le_refl _) _
      have hIw : Nest wr.heap.size wr A' cv := hI'.more hb.size
      have HV1 := Lib.hid (fun L : Later (wr.alloc (.cells #[.string s, .int .i64 a, .slice A' cv.length c'] 74)) => ValidFan_i s a A' c' cv wr.heap.size L.world hs (by omega) ((hIw.below haa).below (L.below.mono (by simp))) (by have := L.below.size; simp at this; omega))
      clear hI' hIw haa hcl
      by_cases hqm : q < m
      · have hp := M2.out q hqm
        unfold fansP at hp
        rw [Bool.and_eq_true] at hp
        obtain ⟨p1, p3⟩ := hp
        rw [hx] at p1
        have HV := Lib.hid (fun L => eqbb (HV1.out L) p1)
        by_cases hq0 : q = 0
        · have hz0 : decide (0 < q) = false := decide_eq_false (by omega)
          clear p1 p3 hx hq0
          go_wp2
          refine wp_region_later (by kernel_rfl) (by kernel_rfl) ?_
          repeat (go_big_quiet_step ((go_at_call 73; first | (with_reducible exact later_b (HV.out _)) | (with_reducible exact later_d (HV.out _)) | (with_reducible exact later_s (HV.out _)))))
          refine wpQuiet_nil ?_
          intro _ hw'
          obtain ⟨LL, hw''⟩ := hw'
          subst hw''
          go_wp2
          go_roundw
          case rel => exact ⟨q + 1, by omega, by go_num, hba.trans (LL.below.mono (by simp; omega))⟩
          case measure => simp [intOf]; omega
        · obtain ⟨p, hp⟩ : ∃ p, q = p + 1 := ⟨q - 1, by omega⟩
          have hz0 : decide (0 < q) = true := decide_eq_true (by omega)
          obtain ⟨⟨s', a', cv'⟩, hx'⟩ : ∃ x, xs.getD p nFa = x := ⟨_, rfl⟩
          obtain ⟨b', o', A3, c3, hbo, _, d0, -, -, -⟩ := (J0.out.below hb).at_ (k := p) (by omega) hx'
          cases hbo
          have g2 := fun L : Later (wr.alloc (.cells #[.string s, .int .i64 a, .slice A' cv.length c'] 74)) => L.cell (Lib.cell?_alloc_some _ d0)
          rw [hp, ordF_succ, ← hp, hx, hx'] at p3
          have p3 : Op.bytesLess s'.toList s.toList = true := p3
          obtain ⟨o1, o2⟩ := (less_flip s'.toList s.toList).1 p3
          have w0 : (0 : Int) ≤ (p : Int) := by omega
          have w1 : (p : Int) < xs.length := by omega
          have hw : IntKind.i64.wrap ((q : Int) - 1) = (p : Int) := by rw [IntWalk.i64_in _ (by omega)]; omega
          clear p1 p3 hx hx' hp hq0
          go_wp2
          refine wp_region_later (by kernel_rfl) (by kernel_rfl) ?_
          repeat (go_big_quiet_step ((go_at_call 73; first | (with_reducible exact later_b (HV.out _)) | (with_reducible exact later_d (HV.out _)) | (with_reducible exact later_s (HV.out _)))))
          refine wpQuiet_nil ?_
          intro _ hw'
          obtain ⟨LL, hw''⟩ := hw'
          subst hw''
          clear hw
          go_wp2
          go_roundw
          case rel => exact ⟨q + 1, by omega, by go_num, hba.trans (LL.below.mono (by simp; omega))⟩
          case measure => simp [intOf]; omega
      · obtain rfl : m = q := by omega
        have HD := Lib.hid (decide_eq_false (show ¬ m = xs.length by omega))
        have hp := M3.out hlt
        unfold fansP at hp
        rw [hx] at hp
        cases p1 : fanB ⟨s, a, cv⟩
        · have HV := Lib.hid (fun L => eqbb (HV1.out L) p1)
          clear p1 hp hx
          go_wp2
          refine wp_region_later (by kernel_rfl) (by kernel_rfl) ?_
          repeat (go_big_quiet_step ((go_at_call 73; first | (with_reducible exact later_b (HV.out _)) | (with_reducible exact later_d (HV.out _)) | (with_reducible exact later_s (HV.out _)))))
          refine wpQuiet_nil ?_
          intro _ hw'
          obtain ⟨LL, hw''⟩ := hw'
          subst hw''
          go_wp2
          go_ret
          exact ⟨ret_bool (by rw [HR.out, HM.out, HD.out]), hba.trans (LL.below.mono (by simp; omega))⟩
        · have HV := Lib.hid (fun L => eqbb (HV1.out L) p1)
          rw [p1, Bool.true_and] at hp
          have hq0 : m ≠ 0 := fun e => by rw [e] at hp; simp [ordF] at hp
          obtain ⟨p, hpm⟩ : ∃ p, m = p + 1 := ⟨m - 1, by omega⟩
          have hz0 : decide (0 < m) = true := decide_eq_true (by omega)
          obtain ⟨⟨s', a', cv'⟩, hx'⟩ : ∃ x, xs.getD p nFa = x := ⟨_, rfl⟩
          obtain ⟨b', o', A3, c3, hbo, _, d0, -, -, -⟩ := (J0.out.below hb).at_ (k := p) (by omega) hx'
          cases hbo
          have g2 := fun L : Later (wr.alloc (.cells #[.string s, .int .i64 a, .slice A' cv.length c'] 74)) => L.cell (Lib.cell?_alloc_some _ d0)
          rw [hpm, ordF_succ, ← hpm, hx, hx'] at hp
          have p3 : Op.bytesLess s'.toList s.toList = false := hp
          have w0 : (0 : Int) ≤ (p : Int) := by omega
          have w1 : (p : Int) < xs.length := by omega
          have hw : IntKind.i64.wrap ((m : Int) - 1) = (p : Int) := by rw [IntWalk.i64_in _ (by omega)]; omega
          rcases (less_flip s'.toList s.toList).2 p3 with o1 | ⟨o1, o2⟩
          · clear p1 p3 hx hx' hpm hq0 hp
            go_wp2
            refine wp_region_later (by kernel_rfl) (by kernel_rfl) ?_
            repeat (go_big_quiet_step ((go_at_call 73; first | (with_reducible exact later_b (HV.out _)) | (with_reducible exact later_d (HV.out _)) | (with_reducible exact later_s (HV.out _)))))
            refine wpQuiet_nil ?_
            intro _ hw'
            obtain ⟨LL, hw''⟩ := hw'
            subst hw''
            clear hw
            go_wp2
            go_ret
            exact ⟨ret_bool (by rw [HR.out, HM.out, HD.out]), hba.trans (LL.below.mono (by simp; omega))⟩
          · clear p1 p3 hx hx' hpm hq0 hp
            go_wp2
            refine wp_region_later (by kernel_rfl) (by kernel_rfl) ?_
            repeat (go_big_quiet_step ((go_at_call 73; first | (with_reducible exact later_b (HV.out _)) | (with_reducible exact later_d (HV.out _)) | (with_reducible exact later_s (HV.out _)))))
            refine wpQuiet_nil ?_
            intro _ hw'
            obtain ⟨LL, hw''⟩ := hw'
            subst hw''
            clear hw
            go_wp2
            go_ret
            exact ⟨ret_bool (by rw [HR.out, HM.out, HD.out]), hba.trans (LL.below.mono (by simp; omega))⟩

    · have HD := Lib.hid (decide_eq_true (show m = xs.length by omega))
      go_wp2
      go_ret
      exact ⟨ret_bool (by rw [HR.out, HM.out, HD.out]), hb⟩
set_option maxRecDepth 100000 in
set_option maxHeartbeats 3200000 in
theorem l06List_any (A : Option Addr) (c : Nat) (xs : List Fa) (B : Nat) (w : World) (hn : (xs.length : Int) ≤ 1099511627776) (hF : FitsF xs) (hl : FansLen xs) (hI : Fns B w A xs) :
    Calls Tryz.prog 77 #[.slice A xs.length c] w fun e w' => e = .returned (.bool (fansB xs)) ∧ ∃ n, w.drewN n = w' := by
  obtain ⟨R, hR⟩ : ∃ R, R = fansB xs := ⟨_, rfl⟩
  rw [← hR]
  have HR := Lib.hid hR
  clear hR
  have J0 := Lib.hid hI
  have HL := Lib.hid (FitsF.id hF)
  have HV0 := Lib.hid (fun k (hk : k < xs.length) => FansLen.cv hl hk)
  clear hI hF hl
  obtain ⟨m, m1, m2, m3⟩ := first_stop (fansP xs) xs.length
  have HM : Hid (fansB xs = (decide ((xs.length : Int) ≤ 8) && decide (m = xs.length))) := Lib.hid (by unfold fansB; rw [allUp_stop m1 m2 m3])
  have M2 := Lib.hid m2
  have M3 := Lib.hid m3
  clear m2 m3
  go_enter Tryz.func77, Tryz.ntmps77
  go_wp2
  go_loopw [3] (fun i wr => ∃ q : Nat, q ≤ m ∧ i = .int .i64 q ∧ ∃ n, w.drewN n = wr) (fun i _ => xs.length - (intOf i).toNat)
  case atStart => exact ⟨0, Nat.zero_le _, rfl, 0, rfl⟩
  case round =>
    obtain ⟨q, hq, rfl, n, rfl⟩ := hrel
    by_cases hlt : q < xs.length
    · obtain ⟨⟨s, a, cv⟩, hx⟩ : ∃ x, xs.getD q nFa = x := ⟨_, rfl⟩
      obtain ⟨b, o, A', c', rfl, hab, c0, c1, c2, hI'⟩ := J0.out.at_ hlt hx
      have hs : s.size ≤ maxLen := by have := HL.out q; rw [hx] at this; exact this
      have hcl : cv.length ≤ 1048576 := by have := HV0.out q hlt; rw [hx] at this; exact this
      have i0 : (0 : Int) ≤ (q : Int) := by omega
      have i1 : (q : Int) < xs.length := by omega
      have HV1 := Lib.hid (fun n => l06Ok_any b (o + q * 3) s a A' c' cv B (w.drewN n) hs (by omega) (hI'.below (below_drewN (Below.refl _ _) n)) (by simpa using c0) (by simpa using c1) (by simpa using c2))
      clear hI' hcl
      by_cases hqm : q < m
      · have hp := M2.out q hqm
        unfold fansP at hp
        rw [Bool.and_eq_true] at hp
        obtain ⟨p1, p3⟩ := hp
        rw [hx] at p1
        have HV := Lib.hid (fun n => eqbd (HV1.out n) p1)
        by_cases hq0 : q = 0
        · have hz0 : decide (0 < q) = false := decide_eq_false (by omega)
          clear p1 p3 hx hq0
          go_wp2
          go_big_quiet ((go_at_call 107; first | (with_reducible exact quiet_d (HV.out _)) | (with_reducible exact quiet_d2 (HV.out _))))
          go_wp2
          go_roundw
          case rel => exact ⟨q + 1, by omega, by go_num, _, rfl⟩
          case measure => simp [intOf]; omega
        · obtain ⟨p, hp⟩ : ∃ p, q = p + 1 := ⟨q - 1, by omega⟩
          have hz0 : decide (0 < q) = true := decide_eq_true (by omega)
          obtain ⟨⟨s', a', cv'⟩, hx'⟩ : ∃ x, xs.getD p nFa = x := ⟨_, rfl⟩
          obtain ⟨b', o', A3, c3, hbo, _, d0, -, -, -⟩ := J0.out.at_ (k := p) (by omega) hx'
          cases hbo
          rw [hp, ordF_succ, ← hp, hx, hx'] at p3
          have p3 : Op.bytesLess s'.toList s.toList = true := p3
          obtain ⟨o1, o2⟩ := (less_flip s'.toList s.toList).1 p3
          have w0 : (0 : Int) ≤ (p : Int) := by omega
          have w1 : (p : Int) < xs.length := by omega
          have hw : IntKind.i64.wrap ((q : Int) - 1) = (p : Int) := by rw [IntWalk.i64_in _ (by omega)]; omega
          clear p1 hx hx' hp hq0
          go_wp2
          go_big_quiet ((go_at_call 107; first | (with_reducible exact quiet_d (HV.out _)) | (with_reducible exact quiet_d2 (HV.out _))))
          clear hw
          go_wp2
          go_roundw
          case rel => exact ⟨q + 1, by omega, by go_num, _, rfl⟩
          case measure => simp [intOf]; omega
      · obtain rfl : m = q := by omega
        have HD := Lib.hid (decide_eq_false (show ¬ m = xs.length by omega))
        have hp := M3.out hlt
        unfold fansP at hp
        rw [hx] at hp
        cases p1 : fanB ⟨s, a, cv⟩
        · have HV := Lib.hid (fun n => eqbd (HV1.out n) p1)
          clear p1 hp hx
          go_wp2
          go_big_quiet ((go_at_call 107; first | (with_reducible exact quiet_d (HV.out _)) | (with_reducible exact quiet_d2 (HV.out _))))
          go_wp2
          go_ret
          exact ⟨ret_bool (by rw [HR.out, HM.out, HD.out, Bool.and_false]), _, (World.drewN_drewN _ _ _).symm⟩
        · have HV := Lib.hid (fun n => eqbd (HV1.out n) p1)
          rw [p1, Bool.true_and] at hp
          have hq0 : m ≠ 0 := fun e => by rw [e] at hp; simp [ordF] at hp
          obtain ⟨p, hpm⟩ : ∃ p, m = p + 1 := ⟨m - 1, by omega⟩
          have hz0 : decide (0 < m) = true := decide_eq_true (by omega)
          obtain ⟨⟨s', a', cv'⟩, hx'⟩ : ∃ x, xs.getD p nFa = x := ⟨_, rfl⟩
          obtain ⟨b', o', A3, c3, hbo, _, d0, -, -, -⟩ := J0.out.at_ (k := p) (by omega) hx'
          cases hbo
          rw [hpm, ordF_succ, ← hpm, hx, hx'] at hp
          have p3 : Op.bytesLess s'.toList s.toList = false := hp
          have w0 : (0 : Int) ≤ (p : Int) := by omega
          have w1 : (p : Int) < xs.length := by omega
          have hw : IntKind.i64.wrap ((m : Int) - 1) = (p : Int) := by rw [IntWalk.i64_in _ (by omega)]; omega
          clear p1 hx hx' hpm hq0 hp
          go_wp2
          go_big_quiet ((go_at_call 107; first | (with_reducible exact quiet_d (HV.out _)) | (with_reducible exact quiet_d2 (HV.out _))))
          clear hw
          go_wp2
          go_ret
          exact ⟨ret_bool (by rw [HR.out, HM.out, HD.out, Bool.and_false]), _, (World.drewN_drewN _ _ _).symm⟩

    · have HD := Lib.hid (decide_eq_true (show m = xs.length by omega))
      by_cases h8 : (xs.length : Int) ≤ 8
      · have H8 := Lib.hid (decide_eq_true h8)
        go_wp2
        go_ret
        exact ⟨ret_bool (by rw [HR.out, HM.out, HD.out, H8.out]; rfl), _, rfl⟩
      · have H8 := Lib.hid (decide_eq_false h8)
        go_wp2
        go_ret
        exact ⟨ret_bool (by rw [HR.out, HM.out, HD.out, H8.out]; rfl), _, rfl⟩
end Go.Proofs.YtejkoicgbgoiaaaGreat

/- Whether an element of a list of fans, of doors has a property of its airway. Conditions: the facts on memory and on lengths that each theorem names. Printed by gen_hofr.py. -/
namespace Go.Proofs.YtejkoicgbgoiaaaGreat
open Go.RowKit
open Pl
theorem any_stop {α : Type} (P : α → Bool) : ∀ (xs : List α) (z : α), ∃ m, m ≤ xs.length ∧ (∀ k, k < m → P (xs.getD k z) = false) ∧ (m < xs.length → P (xs.getD m z) = true) ∧ xs.any P = decide (m < xs.length)
  | [], z => ⟨0, Nat.le_refl _, fun _ h => absurd h (by omega), fun h => absurd h (by simp), by simp⟩
  | x :: xs, z => by
    cases hp : P x
    · obtain ⟨m, h1, h2, h3, h4⟩ := any_stop P xs z
      refine ⟨m + 1, by simpa using h1, fun k hk => ?_, fun h => ?_, ?_⟩
      · cases k with
        | zero => exact hp
        | succ k => exact h2 k (by omega)
      · exact h3 (by simpa using h)
      · rw [List.any_cons, hp, h4]; simp
    · exact ⟨0, Nat.zero_le _, fun _ h => absurd h (by omega), fun _ => hp, by simp [hp]⟩
/-- A function value tells of each element, by its airway. -/
def TellsF (g : FuncId) (cb : Array Value) (p : Int → Bool) (w : World) : Prop := ∀ (s : ByteArray) (a : Int) (A' : Option Addr) (n c' : Nat) W, Below w.heap.size w W → Calls Tryz.prog g (#[.agg #[.string s, .int .i64 a, .slice A' n c']] ++ cb) W fun e w' => e = .returned (.bool (p a)) ∧ Below W.heap.size W w'
set_option maxRecDepth 100000 in
theorem IndexFuncF_any (g : FuncId) (cb : Array Value) (eg : ∀ args w, (callFunc g args).run Tryz.prog w = .ok (.enter g args) w) (A : Option Addr) (c m : Nat) (xs : List Fa) (B : Nat) (p : Int → Bool) (w : World) (hn : (xs.length : Int) ≤ 1099511627776) (hI : Fns B w A xs) (hB : B ≤ w.heap.size) (hf : TellsF g cb p w) (_ : m ≤ xs.length) (h1 : ∀ k, k < m → p (xs.getD k nFa).aw = false) (h2 : m < xs.length → p (xs.getD m nFa).aw = true) :
    Calls Tryz.prog 155 #[.slice A xs.length c, .func (.func g) #[] cb] w fun e w' => e = .returned (.int .i64 (if m < xs.length then (m : Int) else -1)) ∧ Below w.heap.size w w' := by
  have H1 := Lib.hid h1
  have H2 := Lib.hid h2
  have J := Lib.hid (hI.more hB)
  have HF := Lib.hid hf
  clear h1 h2 hI hf
  obtain ⟨R, hR⟩ : ∃ R : Int, R = if m < xs.length then (m : Int) else -1 := ⟨_, rfl⟩
  rw [← hR]
  have HR := Lib.hid hR
  clear hR
  go_enter Tryz.func155, Tryz.ntmps155
  go_wp2
  go_loopw [8] (fun i wr => ∃ k : Nat, k ≤ m ∧ i = .int .i64 k ∧ Below w.heap.size w wr) (fun i _ => xs.length - (intOf i).toNat)
  case atStart => exact ⟨0, Nat.zero_le _, rfl, Below.refl _ _⟩
  case round =>
    obtain ⟨k, hk, rfl, hb⟩ := hrel
    by_cases hlt : k < xs.length
    · obtain ⟨⟨s, a, cv⟩, hx⟩ : ∃ x, xs.getD k nFa = x := ⟨_, rfl⟩
      obtain ⟨b, o, A', c', rfl, hab, c0, c1, c2, -⟩ := (J.out.below hb).at_ hlt hx
      have hc := HF.out s a A' cv.length c' wr hb
      have i0 : (0 : Int) ≤ (k : Int) := by omega
      have i1 : (k : Int) < xs.length := by omega
      by_cases hb' : k < m
      · have hp : p a = false := by have := H1.out k hb'; rw [hx] at this; exact this
        rw [hp] at hc
        have HQ := Lib.hid hc
        clear hp hc hx
        go_wp2_with (go_at_fn g; refine HQ.out.mono ?_; rintro e w' ⟨rfl, hb2⟩)
        go_roundw
        case rel => exact ⟨k + 1, by omega, by go_num, hb.trans (hb2.mono hb.size)⟩
        case measure => simp [intOf]; omega
      · obtain rfl : m = k := by omega
        have hp : p a = true := by have := H2.out hlt; rw [hx] at this; exact this
        rw [hp] at hc
        have HQ := Lib.hid hc
        clear hp hc hx
        go_wp2_with (go_at_fn g; refine HQ.out.mono ?_; rintro e w' ⟨rfl, hb2⟩)
        go_ret
        exact ⟨ret_int (by rw [HR.out, if_pos hlt]), hb.trans (hb2.mono hb.size)⟩
    · go_wp2
      go_ret
      exact ⟨ret_int (by rw [HR.out, if_neg (by omega)]), hb⟩
theorem ContainsFuncF_any (g : FuncId) (cb : Array Value) (eg : ∀ args w, (callFunc g args).run Tryz.prog w = .ok (.enter g args) w) (A : Option Addr) (c : Nat) (xs : List Fa) (B : Nat) (p : Int → Bool) (w : World) (hn : (xs.length : Int) ≤ 1099511627776) (hI : Fns B w A xs) (hB : B ≤ w.heap.size) (hf : TellsF g cb p w) :
    Calls Tryz.prog 119 #[.slice A xs.length c, .func (.func g) #[] cb] w fun e w' => e = .returned (.bool (xs.any fun x => p x.aw)) ∧ Below w.heap.size w w' := by
  obtain ⟨m, m1, m2, m3, m4⟩ := any_stop (fun x : Fa => p x.aw) xs nFa
  have HX := Lib.hid (IndexFuncF_any g cb eg A c m xs B p w hn hI hB hf m1 m2 m3)
  rw [m4]
  clear m2 m3 m4 hI hf
  by_cases hh : m < xs.length
  · rw [if_pos hh] at HX
    have HD := Lib.hid (decide_eq_true hh)
    go_enter Tryz.func119, Tryz.ntmps119
    go_wp2_with (go_at_call 155; refine HX.out.mono ?_; rintro e w' ⟨rfl, hb⟩)
    go_ret
    exact ⟨ret_bool (by rw [HD.out]), hb⟩
  · rw [if_neg hh] at HX
    have HD := Lib.hid (decide_eq_false hh)
    go_enter Tryz.func119, Tryz.ntmps119
    go_wp2_with (go_at_call 155; refine HX.out.mono ?_; rintro e w' ⟨rfl, hb⟩)
    go_ret
    exact ⟨ret_bool (by rw [HD.out]), hb⟩
/-- A function value tells of each element, by its airway. -/
def TellsD (g : FuncId) (cb : Array Value) (p : Int → Bool) (w : World) : Prop := ∀ (s : ByteArray) (a u v : Int) W, Below w.heap.size w W → Calls Tryz.prog g (#[.agg #[.string s, .int .i64 a, .int .i64 u, .int .i64 v]] ++ cb) W fun e w' => e = .returned (.bool (p a)) ∧ Below W.heap.size W w'
set_option maxRecDepth 100000 in
theorem IndexFuncD_any (g : FuncId) (cb : Array Value) (eg : ∀ args w, (callFunc g args).run Tryz.prog w = .ok (.enter g args) w) (A : Option Addr) (c m : Nat) (xs : List Do) (B : Nat) (p : Int → Bool) (w : World) (hn : (xs.length : Int) ≤ 1099511627776) (hI : Recs encDo 4 B w A xs) (hB : B ≤ w.heap.size) (hf : TellsD g cb p w) (_ : m ≤ xs.length) (h1 : ∀ k, k < m → p (xs.getD k nDo).i0 = false) (h2 : m < xs.length → p (xs.getD m nDo).i0 = true) :
    Calls Tryz.prog 153 #[.slice A xs.length c, .func (.func g) #[] cb] w fun e w' => e = .returned (.int .i64 (if m < xs.length then (m : Int) else -1)) ∧ Below w.heap.size w w' := by
  have H1 := Lib.hid h1
  have H2 := Lib.hid h2
  have J := Lib.hid (hI.more hB)
  have HF := Lib.hid hf
  clear h1 h2 hI hf
  obtain ⟨R, hR⟩ : ∃ R : Int, R = if m < xs.length then (m : Int) else -1 := ⟨_, rfl⟩
  rw [← hR]
  have HR := Lib.hid hR
  clear hR
  go_enter Tryz.func153, Tryz.ntmps153
  go_wp2
  go_loopw [8] (fun i wr => ∃ k : Nat, k ≤ m ∧ i = .int .i64 k ∧ Below w.heap.size w wr) (fun i _ => xs.length - (intOf i).toNat)
  case atStart => exact ⟨0, Nat.zero_le _, rfl, Below.refl _ _⟩
  case round =>
    obtain ⟨k, hk, rfl, hb⟩ := hrel
    by_cases hlt : k < xs.length
    · obtain ⟨⟨s, a, u, v⟩, hx⟩ : ∃ x, xs.getD k nDo = x := ⟨_, rfl⟩
      obtain ⟨b, o, rfl, hab, c0, c1, c2, c3⟩ := (J.out.below hb).cellsDo hlt hx
      have hc := HF.out s a u v wr hb
      have i0 : (0 : Int) ≤ (k : Int) := by omega
      have i1 : (k : Int) < xs.length := by omega
      by_cases hb' : k < m
      · have hp : p a = false := by have := H1.out k hb'; rw [hx] at this; exact this
        rw [hp] at hc
        have HQ := Lib.hid hc
        clear hp hc hx
        go_wp2_with (go_at_fn g; refine HQ.out.mono ?_; rintro e w' ⟨rfl, hb2⟩)
        go_roundw
        case rel => exact ⟨k + 1, by omega, by go_num, hb.trans (hb2.mono hb.size)⟩
        case measure => simp [intOf]; omega
      · obtain rfl : m = k := by omega
        have hp : p a = true := by have := H2.out hlt; rw [hx] at this; exact this
        rw [hp] at hc
        have HQ := Lib.hid hc
        clear hp hc hx
        go_wp2_with (go_at_fn g; refine HQ.out.mono ?_; rintro e w' ⟨rfl, hb2⟩)
        go_ret
        exact ⟨ret_int (by rw [HR.out, if_pos hlt]), hb.trans (hb2.mono hb.size)⟩
    · go_wp2
      go_ret
      exact ⟨ret_int (by rw [HR.out, if_neg (by omega)]), hb⟩
theorem ContainsFuncD_any (g : FuncId) (cb : Array Value) (eg : ∀ args w, (callFunc g args).run Tryz.prog w = .ok (.enter g args) w) (A : Option Addr) (c : Nat) (xs : List Do) (B : Nat) (p : Int → Bool) (w : World) (hn : (xs.length : Int) ≤ 1099511627776) (hI : Recs encDo 4 B w A xs) (hB : B ≤ w.heap.size) (hf : TellsD g cb p w) :
    Calls Tryz.prog 116 #[.slice A xs.length c, .func (.func g) #[] cb] w fun e w' => e = .returned (.bool (xs.any fun x => p x.i0)) ∧ Below w.heap.size w w' := by
  obtain ⟨m, m1, m2, m3, m4⟩ := any_stop (fun x : Do => p x.i0) xs nDo
  have HX := Lib.hid (IndexFuncD_any g cb eg A c m xs B p w hn hI hB hf m1 m2 m3)
  rw [m4]
  clear m2 m3 m4 hI hf
  by_cases hh : m < xs.length
  · rw [if_pos hh] at HX
    have HD := Lib.hid (decide_eq_true hh)
    go_enter Tryz.func116, Tryz.ntmps116
    go_wp2_with (go_at_call 153; refine HX.out.mono ?_; rintro e w' ⟨rfl, hb⟩)
    go_ret
    exact ⟨ret_bool (by rw [HD.out]), hb⟩
  · rw [if_neg hh] at HX
    have HD := Lib.hid (decide_eq_false hh)
    go_enter Tryz.func116, Tryz.ntmps116
    go_wp2_with (go_at_call 153; refine HX.out.mono ?_; rintro e w' ⟨rfl, hb⟩)
    go_ret
    exact ⟨ret_bool (by rw [HD.out]), hb⟩
end Go.Proofs.YtejkoicgbgoiaaaGreat

/- Whether a number is an index of a list of airways. Conditions: the length that the theorem names. -/
namespace Go.Proofs.YtejkoicgbgoiaaaGreat
open Go.RowKit
open Pl
theorem indexValidA_any (A : Option Addr) (c n : Nat) (k : Int) (w : World) (hn : (n : Int) ≤ 1099511627776) :
    Calls Tryz.prog 61 #[.slice A n c, .int .i64 k] w fun e w' => e = .returned (.bool (inB k 0 ((n : Int) - 1))) ∧ w = w' := by
  go_enter Tryz.func61, Tryz.ntmps61
  go_wp2_with (go_at_call 43; refine (within_any _ _ _ _).mono ?_; rintro e w' ⟨rfl, rfl⟩)
  go_ret
  exact ⟨rfl, rfl⟩
end Go.Proofs.YtejkoicgbgoiaaaGreat

/- The drop along an airway, and lists that go with a mine. Conditions: the bounds that each theorem names. -/
namespace Go.Proofs.YtejkoicgbgoiaaaGreat
open Go.RowKit
open Pl
theorem mulB {a b A B : Int} (h0 : 0 ≤ a) (h1 : a ≤ A) (h2 : -B ≤ b) (h3 : b ≤ B) : -(A * B) ≤ a * b ∧ a * b ≤ A * B := by
  by_cases h : 0 ≤ b
  · have x := mul_le h0 h1 h h3
    have y := mul_ge h0 h
    exact ⟨by omega, x⟩
  · have x := mul_le h0 h1 (show 0 ≤ -b by omega) (show -b ≤ B by omega)
    have y := mul_ge h0 (show 0 ≤ -b by omega)
    have z : a * -b = -(a * b) := Int.mul_neg a b
    rw [z] at x y
    exact ⟨by omega, by omega⟩
def dropZ (r f : Int) : Int := divR (r * f * (f.natAbs : Int)) 10000000000
theorem drop_bd {r f : Int} (h1 : 0 ≤ r) (h2 : r ≤ 1000000) (h3 : -100000 ≤ f) (h4 : f ≤ 100000) : (-100000000000 ≤ r * f ∧ r * f ≤ 100000000000) ∧ (-10000000000000000 ≤ r * f * (f.natAbs : Int) ∧ r * f * (f.natAbs : Int) ≤ 10000000000000000) := by
  obtain ⟨a, b⟩ := mulB h1 h2 h3 h4
  obtain ⟨c, d⟩ := mulB (a := (f.natAbs : Int)) (b := r * f) (A := 100000) (B := 100000000000) (by omega) (by omega) (by omega) (by omega)
  rw [Int.mul_comm (f.natAbs : Int) (r * f)] at c d
  exact ⟨⟨by omega, by omega⟩, ⟨by omega, by omega⟩⟩
theorem dropOf_any (r f : Int) (w : World) (h1 : 0 ≤ r) (h2 : r ≤ 1000000) (h3 : -100000 ≤ f) (h4 : f ≤ 100000) :
    Calls Tryz.prog 163 #[.int .i64 r, .int .i64 f] w fun e w' => e = .returned (.int .i64 (dropZ r f)) ∧ ∃ n, w.drewN n = w' := by
  obtain ⟨⟨a, b⟩, c, d⟩ := drop_bd h1 h2 h3 h4
  obtain ⟨R, hR⟩ : ∃ R, R = dropZ r f := ⟨_, rfl⟩
  rw [← hR]
  have HR := Lib.hid hR
  clear hR
  go_enter Tryz.func163, Tryz.ntmps163
  go_wp2_with (first | (go_at_call 96; refine (abs_any _ _ (by omega) (by omega)).mono ?_; rintro e w' ⟨rfl, rfl⟩) | (go_at_call 132; refine (divRound_any _ _ _ (by omega) (by omega) (by omega) (by omega)).mono ?_; rintro e w' ⟨rfl, _, rfl⟩))
  go_ret
  exact ⟨by rw [HR.out]; rfl, _, rfl⟩
theorem l03Drop_any (r f : Int) (w : World) (h1 : 0 ≤ r) (h2 : r ≤ 1000000) (h3 : -100000 ≤ f) (h4 : f ≤ 100000) :
    Calls Tryz.prog 170 #[.int .i64 r, .int .i64 f] w fun e w' => e = .returned (.int .i64 (dropZ r f)) ∧ w = w' := by
  obtain ⟨⟨a, b⟩, c, d⟩ := drop_bd h1 h2 h3 h4
  obtain ⟨R, hR⟩ : ∃ R, R = dropZ r f := ⟨_, rfl⟩
  rw [← hR]
  have HR := Lib.hid hR
  clear hR
  have e : ((f.natAbs : Nat) : Int) = mx f (-f) := by unfold mx; split <;> omega
  have HE := Lib.hid e
  rw [e] at c d
  have HD := Lib.hid (show dropZ r f = divR (r * f * mx f (-f)) 10000000000 by unfold dropZ; rw [e])
  have HA : ∀ W, Calls Tryz.prog 146 #[.int .i64 f] W fun e w' => e = .returned (.int .i64 (mx f (-f))) ∧ W = w' := by
    intro W
    clear HE e HR HD a b c d
    go_enter Tryz.func146, Tryz.ntmps146
    go_wp2_with (go_at_call 141; refine (l00Max_any _ _ _).mono ?_; rintro e w' ⟨rfl, rfl⟩)
    go_ret
    exact ⟨rfl, rfl⟩
  clear e
  generalize mx f (-f) = q at *
  go_enter Tryz.func170, Tryz.ntmps170
  go_wp2_with (first | (go_at_call 146; refine (HA _).mono ?_; rintro e w' ⟨rfl, rfl⟩) | (go_at_call 149; refine (l01Div_any _ _ _ (by omega) (by omega) (by omega) (by omega)).mono ?_; rintro e w' ⟨rfl, rfl⟩))
  go_ret
  exact ⟨by rw [HR.out, HD.out]; rfl, rfl⟩
theorem hasList_any (J : Int) (A : Option Addr) (cp : Nat) (xs : List Aw) (A' : Option Addr) (c' : Nat) (ys : List Int) (lo hi : Int) (B : Nat) (w : World) (_ : (xs.length : Int) ≤ 1099511627776) (hn : (ys.length : Int) ≤ 1099511627776) (hI : Ints B w A' ys) (hB : B ≤ w.heap.size) (hT : Fits ys) :
    Calls Tryz.prog 62 #[.agg #[.int .i64 J, .slice A xs.length cp], .slice A' ys.length c', .int .i64 lo, .int .i64 hi] w fun e w' => e = .returned (.bool (decide ((ys.length : Int) = xs.length) && allIn ys lo hi)) ∧ Below w.heap.size w w' := by
  have HS := Lib.hid (fun (W : World) (hb : Below w.heap.size w W) => allWithin_any A' c' ys lo hi w.heap.size W hn ((hI.more hB).below hb) hb.size hT)
  clear hI hT
  generalize allIn ys lo hi = b at *
  by_cases he : (ys.length : Int) = xs.length
  · have HE := Lib.hid he
    go_enter Tryz.func62, Tryz.ntmps62
    go_wp2_with fail
    refine (HS.out _ (by go_grown)).mono ?_
    rintro e w1 ⟨rfl, hb1⟩
    obtain ⟨hc1, hf1⟩ := bcell hb1
    have q1_0 : w.heap.size < w1.heap.size := by have := hb1.size; simp at this; omega
    have be1 : Below w.heap.size w w1 := ((Below.refl w.heap.size w).alloc (by simp) _).trans (hb1.mono (by simp))
    have hbe := be1
    go_wp2_with fail
    go_ret
    exact ⟨ret_bool (by simp [HE.out]), hbe⟩
  · have HE := Lib.hid he
    go_enter Tryz.func62, Tryz.ntmps62
    go_wp2_with fail
    go_ret
    exact ⟨ret_bool (by simp [HE.out]), by go_grown⟩
theorem hasFlows_any (J : Int) (A : Option Addr) (cp : Nat) (xs : List Aw) (A' : Option Addr) (c' : Nat) (ys : List Int) (B : Nat) (w : World) (hx : (xs.length : Int) ≤ 1099511627776) (hn : (ys.length : Int) ≤ 1099511627776) (hI : Ints B w A' ys) (hB : B ≤ w.heap.size) (hT : Fits ys) :
    Calls Tryz.prog 99 #[.agg #[.int .i64 J, .slice A xs.length cp], .slice A' ys.length c'] w fun e w' => e = .returned (.bool (decide ((ys.length : Int) = xs.length) && allIn ys (-100000) 100000)) ∧ Below w.heap.size w w' := by
  have HS := Lib.hid (fun (W : World) (hb : Below w.heap.size w W) => hasList_any J A cp xs A' c' ys (-100000) 100000 w.heap.size W hx hn ((hI.more hB).below hb) hb.size hT)
  clear hI hT
  generalize (decide ((ys.length : Int) = xs.length) && allIn ys (-100000) 100000) = b at *
  go_enter Tryz.func99, Tryz.ntmps99
  go_wp2_with fail
  refine (HS.out _ (by go_grown)).mono ?_
  rintro e w1 ⟨rfl, hb1⟩
  obtain ⟨hc1, hf1⟩ := bcell hb1
  have q1_0 : w.heap.size < w1.heap.size := by have := hb1.size; simp at this; omega
  have be1 : Below w.heap.size w w1 := ((Below.refl w.heap.size w).alloc (by simp) _).trans (hb1.mono (by simp))
  have hbe := be1
  go_wp2_with fail
  go_ret
  exact ⟨rfl, hbe⟩
end Go.Proofs.YtejkoicgbgoiaaaGreat

/- Fans and pressures that fit a mine: by the program and by the reference. Conditions: the facts on memory and on lengths that each theorem names. -/
namespace Go.Proofs.YtejkoicgbgoiaaaGreat
open Go.RowKit
open Pl
def hasFB (n : Nat) (fs : List Fa) : Bool := !(fs.any fun x => !inB x.aw 0 ((n : Int) - 1))
theorem hasFans1_any (bm : Nat) (A : Option Addr) (cp nx : Nat) (s : ByteArray) (a : Int) (A' : Option Addr) (n c' : Nat) (w : World) (hn : (nx : Int) ≤ 1099511627776) (hc : w.cell? ⟨bm, 1, none⟩ = some (.slice A nx cp)) :
    Calls Tryz.prog 120 #[.agg #[.string s, .int .i64 a, .slice A' n c'], .pointer (some ⟨bm, 0, none⟩)] w fun e w' => e = .returned (.bool (!inB a 0 ((nx : Int) - 1))) ∧ Below w.heap.size w w' := by
  have hb0 : Below w.heap.size w (w.alloc (.cells #[.string s, .int .i64 a, .slice A' n c'] 74)) := by go_grown
  have hc1 := Lib.cell?_alloc_some (.cells #[.string s, .int .i64 a, .slice A' n c'] 74) hc
  go_enter Tryz.func120, Tryz.ntmps120
  go_wp2_with (go_at_call 61; refine (indexValidA_any _ _ _ _ _ hn).mono ?_; rintro e w' ⟨rfl, rfl⟩)
  go_ret
  exact ⟨rfl, hb0⟩
set_option maxRecDepth 100000 in
theorem hasFans_any (J : Int) (A : Option Addr) (cp nx : Nat) (A2 : Option Addr) (c2 : Nat) (fs : List Fa) (B : Nat) (w : World) (hx : (nx : Int) ≤ 1099511627776) (hn : (fs.length : Int) ≤ 1099511627776) (hI : Fns B w A2 fs) (hB : B ≤ w.heap.size) :
    Calls Tryz.prog 85 #[.agg #[.int .i64 J, .slice A nx cp], .slice A2 fs.length c2] w fun e w' => e = .returned (.bool (hasFB nx fs)) ∧ Below w.heap.size w w' := by
  unfold hasFB
  have hb0 : Below w.heap.size w (w.alloc (.cells #[.int .i64 J, .slice A nx cp] 33)) := by go_grown
  have HI := Lib.hid ((hI.more hB).below hb0)
  have hc : (w.alloc (.cells #[.int .i64 J, .slice A nx cp] 33)).cell? ⟨w.heap.size, 1, none⟩ = some (.slice A nx cp) := by go_simp
  have hlt : w.heap.size < (w.alloc (.cells #[.int .i64 J, .slice A nx cp] 33)).heap.size := by simp
  have HT : Hid (TellsF 120 #[.pointer (some ⟨w.heap.size, 0, none⟩)] (fun a => !inB a 0 ((nx : Int) - 1)) (w.alloc (.cells #[.int .i64 J, .slice A nx cp] 33))) := Lib.hid (fun s a A' n c' W hb => hasFans1_any w.heap.size A cp nx s a A' n c' W hx ((hb.cell (p := ⟨w.heap.size, 1, none⟩) hlt).trans hc))
  have HC : Hid (Calls Tryz.prog 119 #[.slice A2 fs.length c2, .func (.func 120) #[] #[.pointer (some ⟨w.heap.size, 0, none⟩)]] (w.alloc (.cells #[.int .i64 J, .slice A nx cp] 33)) fun e w' => e = .returned (.bool (fs.any fun x => !inB x.aw 0 ((nx : Int) - 1))) ∧ Below (w.alloc (.cells #[.int .i64 J, .slice A nx cp] 33)).heap.size (w.alloc (.cells #[.int .i64 J, .slice A nx cp] 33)) w') := Lib.hid (ContainsFuncF_any 120 _ (enters_of Tryz.func120 (by kernel_rfl) rfl) A2 c2 fs w.heap.size _ _ hn HI.out hb0.size HT.out)
  clear hI hc HT HI
  generalize (fs.any fun x => !inB x.aw 0 ((nx : Int) - 1)) = r at *
  go_enter Tryz.func85, Tryz.ntmps85
  go_wp2_with fail
  refine HC.out.mono ?_
  rintro e w2 ⟨rfl, hb2⟩
  go_wp2_with fail
  go_ret
  exact ⟨rfl, hb0.trans (hb2.mono hb0.size)⟩
set_option maxRecDepth 100000 in
theorem l07Fans_any (bm om : Nat) (A : Option Addr) (cp nx : Nat) (A2 : Option Addr) (c2 : Nat) (fs : List Fa) (B : Nat) (w : World) (_ : (nx : Int) ≤ 1099511627776) (hp : ∀ x ∈ fs, 0 ≤ x.aw) (hn : (fs.length : Int) ≤ 1099511627776) (hI : Fns B w A2 fs) (mm : w.cell? ⟨bm, om + 1, none⟩ = some (.slice A nx cp)) :
    Calls Tryz.prog 78 #[.pointer (some ⟨bm, om, none⟩), .slice A2 fs.length c2] w fun e w' => e = .returned (.bool (hasFB nx fs)) ∧ ∃ n, w.drewN n = w' := by
  obtain ⟨m, m1, m2, m3, m4⟩ := any_stop (fun x : Fa => !inB x.aw 0 ((nx : Int) - 1)) fs nFa
  obtain ⟨R, hR⟩ : ∃ R, R = hasFB nx fs := ⟨_, rfl⟩
  rw [← hR]
  have HR : Hid (R = !decide (m < fs.length)) := Lib.hid (by rw [hR]; unfold hasFB; rw [m4])
  have M2 := Lib.hid m2
  have M3 := Lib.hid m3
  have J0 := Lib.hid hI
  have HP := Lib.hid hp
  clear hR m2 m3 m4 hI hp
  go_enter Tryz.func78, Tryz.ntmps78
  go_wp2
  go_loopw [5] (fun i wr => ∃ q : Nat, q ≤ m ∧ i = .int .i64 q ∧ ∃ n, w.drewN n = wr) (fun i _ => fs.length - (intOf i).toNat)
  case atStart => exact ⟨0, Nat.zero_le _, rfl, 0, rfl⟩
  case round =>
    obtain ⟨q, hq, rfl, n, rfl⟩ := hrel
    by_cases hlt : q < fs.length
    · obtain ⟨⟨s, a, cv⟩, hx'⟩ : ∃ x, fs.getD q nFa = x := ⟨_, rfl⟩
      obtain ⟨b, o, A', c', rfl, hab, c0, c1, c2', -⟩ := J0.out.at_ hlt hx'
      have ha : 0 ≤ a := by have := HP.out _ (List.getElem_mem hlt); rw [← getD_fa hlt, hx'] at this; exact this
      have i0 : (0 : Int) ≤ (q : Int) := by omega
      have i1 : (q : Int) < fs.length := by omega
      by_cases hqm : q < m
      · have hb := M2.out q hqm
        rw [hx'] at hb
        have hb : (!inB a 0 ((nx : Int) - 1)) = false := hb
        rw [Bool.not_eq_false', inB_iff] at hb
        have hd : decide ((nx : Int) ≤ a) = false := decide_eq_false (by omega)
        clear hx' hb
        go_wp2
        go_big_quiet (fail)
        go_wp2
        go_roundw
        case rel => exact ⟨q + 1, by omega, by go_num, _, rfl⟩
        case measure => simp [intOf]; omega
      · obtain rfl : m = q := by omega
        have hb := M3.out hlt
        rw [hx'] at hb
        have hb : (!inB a 0 ((nx : Int) - 1)) = true := hb
        have hb : ¬ inB a 0 ((nx : Int) - 1) = true := by simpa using hb
        rw [inB_iff] at hb
        have hd : decide ((nx : Int) ≤ a) = true := decide_eq_true (by omega)
        have HD := Lib.hid (decide_eq_true hlt)
        clear hx' hb
        go_wp2
        go_big_quiet (fail)
        go_wp2
        go_ret
        exact ⟨ret_bool (by rw [HR.out, HD.out]; rfl), _, (World.drewN_drewN _ _ _).symm⟩
    · have HD := Lib.hid (decide_eq_false (show ¬ m < fs.length by omega))
      go_wp2
      go_ret
      exact ⟨ret_bool (by rw [HR.out, HD.out]; rfl), _, rfl⟩
end Go.Proofs.YtejkoicgbgoiaaaGreat

/- Pressures that fit a mine, by the reference. Conditions: the facts on memory and on lengths that the theorem names. -/
namespace Go.Proofs.YtejkoicgbgoiaaaGreat
open Go.RowKit
open Pl
set_option maxRecDepth 100000 in
theorem l07Pressures_any (bm om : Nat) (A : Option Addr) (cp nx : Nat) (A2 : Option Addr) (c2 : Nat) (dr : List Int) (B : Nat) (w : World) (_ : (nx : Int) ≤ 1099511627776) (hn : (dr.length : Int) ≤ 1099511627776) (hI : Ints B w A2 dr) (mm : w.cell? ⟨bm, om + 1, none⟩ = some (.slice A nx cp)) :
    Calls Tryz.prog 79 #[.pointer (some ⟨bm, om, none⟩), .slice A2 dr.length c2] w fun e w' => e = .returned (.bool (decide ((dr.length : Int) = nx) && allIn dr (-100000) 100000)) ∧ ∃ n, w.drewN n = w' := by
  obtain ⟨m, m1, m2, m3, m4⟩ := any_stop (fun x : Int => !inB x (-100000) 100000) dr 0
  obtain ⟨R, hR⟩ : ∃ R, R = (decide ((dr.length : Int) = nx) && allIn dr (-100000) 100000) := ⟨_, rfl⟩
  rw [← hR]
  have HR : Hid (R = (decide ((dr.length : Int) = nx) && !decide (m < dr.length))) := Lib.hid (by
    have e : allIn dr (-100000) 100000 = !(dr.any fun x => !inB x (-100000) 100000) := by unfold allIn; rw [List.not_any_eq_all_not]; simp
    rw [hR, e, m4])
  have M2 := Lib.hid m2
  have M3 := Lib.hid m3
  have J0 := Lib.hid hI
  clear hR m2 m3 m4 hI
  go_enter Tryz.func79, Tryz.ntmps79
  go_wp2
  go_loopw [5] (fun i wr => ∃ q : Nat, q ≤ m ∧ i = .int .i64 q ∧ w = wr) (fun i _ => dr.length - (intOf i).toNat)
  case atStart => exact ⟨0, Nat.zero_le _, rfl, rfl⟩
  case round =>
    obtain ⟨q, hq, rfl, rfl⟩ := hrel
    by_cases hlt : q < dr.length
    · obtain ⟨ad, rfl, _, hc⟩ := J0.out.at_ (k := q) hlt
      have e : dr.getD q 0 = dr[q] := by simp [List.getD, hlt]
      have i0 : (0 : Int) ≤ (q : Int) := by omega
      have i1 : (q : Int) < dr.length := by omega
      by_cases hqm : q < m
      · have hb := M2.out q hqm
        rw [e] at hb
        have hb : (!inB dr[q] (-100000) 100000) = false := hb
        rw [Bool.not_eq_false'] at hb
        generalize dr[q] = x at *
        clear e
        go_wp2_with (go_at_call 67; refine (eqb (l00In_any _ _ _ _) hb).mono ?_; rintro e w' ⟨rfl, rfl⟩)
        go_roundw
        case rel => exact ⟨q + 1, by omega, by go_num, by first | trivial | rfl⟩
        case measure => simp [intOf]; omega
      · obtain rfl : m = q := by omega
        have hb := M3.out hlt
        rw [e] at hb
        have hb : (!inB dr[m] (-100000) 100000) = true := hb
        rw [Bool.not_eq_true'] at hb
        have HD := Lib.hid (decide_eq_true hlt)
        generalize dr[m] = x at *
        clear e
        go_wp2_with (go_at_call 67; refine (eqb (l00In_any _ _ _ _) hb).mono ?_; rintro e w' ⟨rfl, rfl⟩)
        go_ret
        exact ⟨ret_bool (by rw [HR.out, HD.out]; simp), 0, rfl⟩
    · have HD := Lib.hid (decide_eq_false (show ¬ m < dr.length by omega))
      by_cases hl : (dr.length : Int) = nx
      · have HL := Lib.hid (decide_eq_true hl)
        have hlb : ((dr.length : Int) == (nx : Int)) = true := by rw [beq_iff_eq]; exact hl
        clear hl
        go_wp2
        go_ret
        exact ⟨ret_bool (by rw [HR.out, HD.out, HL.out]; first | rfl | simp [hlb]), 0, rfl⟩
      · have HL := Lib.hid (decide_eq_false hl)
        have hlb : ((dr.length : Int) == (nx : Int)) = false := by rw [beq_eq_false_iff_ne]; exact hl
        clear hl
        go_wp2
        go_ret
        exact ⟨ret_bool (by rw [HR.out, HD.out, HL.out]; first | rfl | simp [hlb]), 0, rfl⟩
end Go.Proofs.YtejkoicgbgoiaaaGreat
