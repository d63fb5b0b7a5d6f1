/- Numbers as decimal text, by the reference. Conditions: the facts on memory and on lengths that each theorem names. -/
import Derived.Test.YtemidjejelmdlaaDoorTxP
import Derived.Test.YtemidjejelmdlaaDoorOwnG
import Derived.Test.YtemidjejelmdlaaDoorUp
namespace Go.Proofs.YtemidjejelmdlaaDoor
open Go.RowKit
open Pl
theorem infoB : (Tryd.prog.info? 5).map (fun i => (i.zero, i.size, i.bytes)) = some (some (.int .u8 0), 1, 1) := by kernel_rfl
theorem digit_cell {r : Int} (h0 : 0 ≤ r) (h1 : r < 10) {u : Nat} (hu : r = ((u % 10 : Nat) : Int)) : encB (UInt8.ofNat (48 + u % 10)) = [.int .u8 (48 + r)] := by
  subst hu
  unfold encB
  have : (UInt8.ofNat (48 + u % 10)).toNat = 48 + u % 10 := by
    rw [UInt8.toNat_ofNat']
    omega
  rw [this]
  congr 2
set_option maxRecDepth 100000 in
set_option maxHeartbeats 1600000 in
theorem l01Dec_any (n : Int) (w : World) (h1 : -9223372036854775808 ≤ n) (h2 : n ≤ 9223372036854775807) :
    Calls Tryd.prog 59 #[.int .i64 n] w fun e w' => e = .returned (.string ⟨(Lib.itoa n).toArray⟩) ∧ Below w.heap.size w w' := by
  by_cases hz : n = 0
  · subst hz
    have e : Lib.itoa 0 = [48] := by unfold Lib.itoa; rw [if_neg (by omega)]; exact Lib.decDigits_one (by decide)
    rw [e]
    go_enter Tryd.func59, Tryd.ntmps59
    go_wp2
    go_ret
    exact ⟨rfl, Below.refl _ _⟩
  have HI := Lib.hid (itoa_sdig hz)
  have HSL := Lib.hid (sdig_len h1 h2)
  obtain ⟨i0, hi, hz0, hz1, hz2⟩ := info_parts infoB
  have HF := Lib.hid (And.intro hi (And.intro hz0 (And.intro hz1 hz2)))
  have HRL := Lib.hid (rdig_len64 h1 h2)
  clear hi hz0 hz1 hz2
  have hzb : (n == 0) = false := by rw [beq_eq_false_iff_ne]; exact hz
  go_enter Tryd.func59, Tryd.ntmps59
  go_wp2
  go_loopw [3, 4] (fun u m wr => ∃ (y : Int) (ds : List UInt8), m = .int .i64 y ∧ (-9223372036854775808 ≤ y ∧ y ≤ 9223372036854775807) ∧ ds ++ rdig y.natAbs = rdig n.natAbs ∧ OwnR 5 encB 1 w.heap.size wr u ds ∧ Below w.heap.size w wr) (fun _ m _ => (intOf m).natAbs)
  case atStart => exact ⟨n, [], rfl, ⟨h1, h2⟩, rfl, OwnR.empty (Nat.le_refl _), (Below.refl _ _).alloc (Nat.le_refl _) _⟩
  case round =>
    obtain ⟨y, ds, rfl, ⟨y1, y2⟩, hds, ho, hb⟩ := hrel
    have hsz := hb.size
    have hl : ds.length ≤ 19 := by have := HRL.out; rw [← hds, List.length_append] at this; omega
    have HDS := Lib.hid hds
    have HO1 := Lib.hid ho
    clear hds ho
    by_cases hy : y = 0
    rotate_left
    · have hyb : (y == 0) = false := by rw [beq_eq_false_iff_ne]; exact hy
      have HR := Lib.hid (rdig_pos (u := y.natAbs) (by omega))
      rcases Int.lt_or_gt_of_ne hy with hneg | hpos
      · obtain ⟨z, rfl⟩ : ∃ z : Nat, y = -(z : Int) := ⟨y.natAbs, by omega⟩
        have hza : (-(z : Int)).natAbs = z := by omega
        rw [hza] at HR HDS
        clear hza
        by_cases hr : (z : Int) % 10 = 0
        · have HC := Lib.hid (digit_cell (r := 0) (by omega) (by omega) (u := z) (by omega))
          go_wp2_with (at_builtin; refine wpList_append_own_at _ rfl _ _ 85 rfl w.heap.size 5 i0 (.int .u8 0) 1 1 Tryd.underlying85 HF.out.1 HF.out.2.1 HF.out.2.2.1 HF.out.2.2.2 rfl (by decide) _ _ _ rfl (HO1.out.later ((Below.refl _ _).alloc (Nat.le_refl _) _)) ⟨wr.heap.size, 0, none⟩ 1 1 [.int .u8 _] rfl rfl (cell_one_new _ _ _) (by intro u hu; simp at hu; subst hu; rfl) (le_max (by omega)) (by omega) (by simp; omega) ?_; intro av aw ah ag an aa)
          have hbe := Below.appendR hb HO1.out hsz ag
          have HO3 := Lib.hid (OwnR.appended (x := UInt8.ofNat (48 + z % 10)) HC.out ah)
          clear ah ag an aa
          go_roundw
          case rel => exact ⟨_, ds ++ [UInt8.ofNat (48 + z % 10)], rfl, ⟨by omega, by omega⟩, by rw [show (-((z : Int) / 10)).natAbs = z / 10 by omega, ← HDS.out, HR.out, List.append_assoc]; rfl, HO3.out, hbe⟩
          case measure => simp [intOf]; omega

        · have hr0 : 0 < (z : Int) % 10 := by omega
          have HC := Lib.hid (digit_cell (r := (z : Int) % 10) (by omega) (by omega) (u := z) (by omega))
          go_wp2_with (at_builtin; refine wpList_append_own_at _ rfl _ _ 85 rfl w.heap.size 5 i0 (.int .u8 0) 1 1 Tryd.underlying85 HF.out.1 HF.out.2.1 HF.out.2.2.1 HF.out.2.2.2 rfl (by decide) _ _ _ rfl (HO1.out.later ((Below.refl _ _).alloc (Nat.le_refl _) _)) ⟨wr.heap.size, 0, none⟩ 1 1 [.int .u8 _] rfl rfl (cell_one_new _ _ _) (by intro u hu; simp at hu; subst hu; rfl) (le_max (by omega)) (by omega) (by simp; omega) ?_; intro av aw ah ag an aa)
          have hbe := Below.appendR hb HO1.out hsz ag
          have HO3 := Lib.hid (OwnR.appended (x := UInt8.ofNat (48 + z % 10)) HC.out ah)
          clear ah ag an aa
          go_roundw
          case rel => exact ⟨_, ds ++ [UInt8.ofNat (48 + z % 10)], rfl, ⟨by omega, by omega⟩, by rw [show (-((z : Int) / 10)).natAbs = z / 10 by omega, ← HDS.out, HR.out, List.append_assoc]; rfl, HO3.out, hbe⟩
          case measure => simp [intOf]; omega
      · obtain ⟨z, rfl⟩ : ∃ z : Nat, y = (z : Int) := ⟨y.natAbs, by omega⟩
        have hza : ((z : Int)).natAbs = z := by omega
        rw [hza] at HR HDS
        clear hza
        have hr0 : ¬ (z : Int) % 10 < 0 := by omega
        have HC := Lib.hid (digit_cell (r := (z : Int) % 10) (by omega) (by omega) (u := z) (by omega))
        go_wp2_with (at_builtin; refine wpList_append_own_at _ rfl _ _ 85 rfl w.heap.size 5 i0 (.int .u8 0) 1 1 Tryd.underlying85 HF.out.1 HF.out.2.1 HF.out.2.2.1 HF.out.2.2.2 rfl (by decide) _ _ _ rfl (HO1.out.later ((Below.refl _ _).alloc (Nat.le_refl _) _)) ⟨wr.heap.size, 0, none⟩ 1 1 [.int .u8 _] rfl rfl (cell_one_new _ _ _) (by intro u hu; simp at hu; subst hu; rfl) (le_max (by omega)) (by omega) (by simp; omega) ?_; intro av aw ah ag an aa)
        have hbe := Below.appendR hb HO1.out hsz ag
        have HO3 := Lib.hid (OwnR.appended (x := UInt8.ofNat (48 + z % 10)) HC.out ah)
        clear ah ag an aa
        go_roundw
        case rel => exact ⟨_, ds ++ [UInt8.ofNat (48 + z % 10)], rfl, ⟨by omega, by omega⟩, by rw [show ((z : Int) / 10).natAbs = z / 10 by omega, ← HDS.out, HR.out, List.append_assoc]; rfl, HO3.out, hbe⟩
        case measure => simp [intOf]; omega
    · subst hy
      have hdn : ds = rdig n.natAbs := by have := HDS.out; rw [show (0 : Int).natAbs = 0 from rfl, rdig_zero, List.append_nil] at this; exact this
      have HS0 : Hid (0 < (sdig n).length) := Lib.hid (by unfold sdig; rw [rdig_pos (by omega : 1 ≤ n.natAbs)]; split <;> simp)
      by_cases hn : n < 0
      · have hsd : sdig n = ds ++ [45] := by unfold sdig; rw [if_pos hn, hdn]
        obtain ⟨sd, hsd2⟩ : ∃ sd, sd = sdig n := ⟨_, rfl⟩
        have HSD := Lib.hid hsd2
        rw [← hsd2] at HS0 HSL
        have HSE := Lib.hid (hsd2.trans hsd)
        have HL20 := Lib.hid HSL.out
        have hl20 : (sd.length : Int) ≤ 20 := by have := HSL.out; omega
        have hl0 : (0 : Int) < sd.length := by have := HS0.out; omega
        clear hdn hsd hsd2
        go_wp2_with (at_builtin; refine wpList_append_own_at _ rfl _ _ 85 rfl w.heap.size 5 i0 (.int .u8 0) 1 1 Tryd.underlying85 HF.out.1 HF.out.2.1 HF.out.2.2.1 HF.out.2.2.2 rfl (by decide) _ _ _ rfl (HO1.out.later ((Below.refl _ _).alloc (Nat.le_refl _) _)) ⟨wr.heap.size, 0, none⟩ 1 1 [.int .u8 _] rfl rfl (cell_one_new _ _ _) (by intro u hu; simp at hu; subst hu; rfl) (le_max (by omega)) (by omega) (by simp; omega) ?_; intro av wB ah ag an aa; have hbX := Below.appendR hb HO1.out hsz ag; have HOD' := Lib.hid (OwnR.appended (x := 45) rfl ah); have HOD : Hid (OwnR 5 encB 1 w.heap.size wB av sd) := Lib.hid (by rw [HSE.out]; exact HOD'.out); obtain ⟨AD, cd, rfl, hrec, -⟩ := HOD.out.slice encB_len; have HRD := Lib.hid hrec; clear hrec ah ag an aa HO1 HOD' HDS)
        go_loopw [6, 7] (fun u j wr => ∃ (k : Nat) (i : Int), k ≤ sd.length ∧ j = .int .i64 i ∧ i = (k : Int) - 1 ∧ OwnR 5 encB 1 wB.heap.size wr u (sd.drop k).reverse ∧ Below wB.heap.size wB wr) (fun _ j _ => (intOf j + 1).toNat)
        case atStart => exact ⟨sd.length, _, Nat.le_refl _, by go_num, rfl, by rw [List.drop_length]; exact OwnR.empty (Nat.le_refl _), (Below.refl _ _).alloc (Nat.le_refl _) _⟩
        case round =>
          obtain ⟨k, i, hk, rfl, hi, ho2, hb2⟩ := hrel
          have HO2 := Lib.hid ho2
          have hsz2 := hb2.size
          cases k with
          | zero =>
            obtain rfl : i = -1 := by omega
            rw [List.drop_zero] at HO2
            obtain ⟨rv, hrv⟩ : ∃ rv, rv = sd.reverse := ⟨_, rfl⟩
            rw [← hrv] at HO2
            have hrl : 0 < rv.length := by rw [hrv, List.length_reverse]; exact HS0.out
            have HRV := Lib.hid hrv
            clear hi hrv ho2
            obtain ⟨AO, co, rfl, -, -⟩ := HO2.out.slice encB_len
            have hcv := bytes_string Tryd.prog 85 5 9 rfl rfl rfl HO2.out hrl rfl
            go_wp2
            go_ret
            exact ⟨by rw [HI.out, HRV.out, HSD.out]; rfl, hbX.trans (hb2.mono hbX.size)⟩
          | succ m =>
            obtain rfl : i = (m : Int) := by omega
            clear hi
            obtain ⟨b, o, rfl, hab, hc⟩ := (HRD.out.below hb2).byte (k := m) (by omega)
            have hm0 : (0 : Int) ≤ (m : Int) := by omega
            have hm1 : (m : Int) < sd.length := by omega
            have hlr : ((sd.drop (m + 1)).reverse).length ≤ 20 := by have := HL20.out; rw [List.length_reverse, List.length_drop]; omega
            have HE : Hid ((sd.drop m).reverse = (sd.drop (m + 1)).reverse ++ [sd.getD m 0]) := Lib.hid (by rw [List.drop_eq_getElem_cons (by omega : m < sd.length), List.reverse_cons, show sd.getD m 0 = sd[m] by simp [List.getD, show m < sd.length by omega]])
            generalize (sd.drop (m + 1)).reverse = ys at *
            clear ho2
            go_wp2_with (at_builtin; refine wpList_append_own_at _ rfl _ _ 85 rfl wB.heap.size 5 i0 (.int .u8 0) 1 1 Tryd.underlying85 HF.out.1 HF.out.2.1 HF.out.2.2.1 HF.out.2.2.2 rfl (by decide) _ _ _ rfl (HO2.out.later ((Below.refl _ _).alloc (Nat.le_refl _) _)) ⟨wr.heap.size, 0, none⟩ 1 1 [.int .u8 _] rfl rfl (cell_one_new _ _ _) (by intro u hu; simp at hu; subst hu; rfl) (le_max (by omega)) (by omega) (by simp; omega) ?_; intro av aw ah ag an aa)
            have hbe := Below.appendR hb2 HO2.out hsz2 ag
            have HO4 := Lib.hid (OwnR.appended (x := sd.getD m 0) rfl ah)
            clear ah ag an aa
            go_roundw
            case rel => exact ⟨m, (m : Int) - 1, by omega, by first | rfl | go_num, rfl, by rw [HE.out]; exact HO4.out, hbe⟩
            case measure => simp [intOf]

      · have hsd : sdig n = ds := by unfold sdig; rw [if_neg hn, hdn]
        obtain ⟨sd, hsd2⟩ : ∃ sd, sd = sdig n := ⟨_, rfl⟩
        have HSD := Lib.hid hsd2
        rw [← hsd2] at HS0 HSL
        have hse := hsd2.trans hsd
        have HL20 := Lib.hid HSL.out
        have hl20 : (sd.length : Int) ≤ 20 := by have := HSL.out; omega
        have hl0 : (0 : Int) < sd.length := by have := HS0.out; omega
        clear hdn hsd hsd2
        have HOD : Hid (OwnR 5 encB 1 w.heap.size wr u3 sd) := Lib.hid (by rw [hse]; exact HO1.out)
        have hbX := hb
        clear HO1 hse HDS
        obtain ⟨AD, cd, rfl, hrec, -⟩ := HOD.out.slice encB_len
        have HRD := Lib.hid hrec
        clear hrec
        obtain ⟨wB, hwB⟩ : ∃ wB : World, wB = wr := ⟨_, rfl⟩
        subst hwB
        go_wp2
        go_loopw [6, 7] (fun u j wr => ∃ (k : Nat) (i : Int), k ≤ sd.length ∧ j = .int .i64 i ∧ i = (k : Int) - 1 ∧ OwnR 5 encB 1 wB.heap.size wr u (sd.drop k).reverse ∧ Below wB.heap.size wB wr) (fun _ j _ => (intOf j + 1).toNat)
        case atStart => exact ⟨sd.length, _, Nat.le_refl _, by go_num, rfl, by rw [List.drop_length]; exact OwnR.empty (Nat.le_refl _), (Below.refl _ _).alloc (Nat.le_refl _) _⟩
        case round =>
          obtain ⟨k, i, hk, rfl, hi, ho2, hb2⟩ := hrel
          have HO2 := Lib.hid ho2
          have hsz2 := hb2.size
          cases k with
          | zero =>
            obtain rfl : i = -1 := by omega
            rw [List.drop_zero] at HO2
            obtain ⟨rv, hrv⟩ : ∃ rv, rv = sd.reverse := ⟨_, rfl⟩
            rw [← hrv] at HO2
            have hrl : 0 < rv.length := by rw [hrv, List.length_reverse]; exact HS0.out
            have HRV := Lib.hid hrv
            clear hi hrv ho2
            obtain ⟨AO, co, rfl, -, -⟩ := HO2.out.slice encB_len
            have hcv := bytes_string Tryd.prog 85 5 9 rfl rfl rfl HO2.out hrl rfl
            go_wp2
            go_ret
            exact ⟨by rw [HI.out, HRV.out, HSD.out]; rfl, hbX.trans (hb2.mono hbX.size)⟩
          | succ m =>
            obtain rfl : i = (m : Int) := by omega
            clear hi
            obtain ⟨b, o, rfl, hab, hc⟩ := (HRD.out.below hb2).byte (k := m) (by omega)
            have hm0 : (0 : Int) ≤ (m : Int) := by omega
            have hm1 : (m : Int) < sd.length := by omega
            have hlr : ((sd.drop (m + 1)).reverse).length ≤ 20 := by have := HL20.out; rw [List.length_reverse, List.length_drop]; omega
            have HE : Hid ((sd.drop m).reverse = (sd.drop (m + 1)).reverse ++ [sd.getD m 0]) := Lib.hid (by rw [List.drop_eq_getElem_cons (by omega : m < sd.length), List.reverse_cons, show sd.getD m 0 = sd[m] by simp [List.getD, show m < sd.length by omega]])
            generalize (sd.drop (m + 1)).reverse = ys at *
            clear ho2
            go_wp2_with (at_builtin; refine wpList_append_own_at _ rfl _ _ 85 rfl wB.heap.size 5 i0 (.int .u8 0) 1 1 Tryd.underlying85 HF.out.1 HF.out.2.1 HF.out.2.2.1 HF.out.2.2.2 rfl (by decide) _ _ _ rfl (HO2.out.later ((Below.refl _ _).alloc (Nat.le_refl _) _)) ⟨wr.heap.size, 0, none⟩ 1 1 [.int .u8 _] rfl rfl (cell_one_new _ _ _) (by intro u hu; simp at hu; subst hu; rfl) (le_max (by omega)) (by omega) (by simp; omega) ?_; intro av aw ah ag an aa)
            have hbe := Below.appendR hb2 HO2.out hsz2 ag
            have HO4 := Lib.hid (OwnR.appended (x := sd.getD m 0) rfl ah)
            clear ah ag an aa
            go_roundw
            case rel => exact ⟨m, (m : Int) - 1, by omega, by first | rfl | go_num, rfl, by rw [HE.out]; exact HO4.out, hbe⟩
            case measure => simp [intOf]
theorem mk_append (a b : List UInt8) : (⟨a.toArray⟩ : ByteArray) ++ ⟨b.toArray⟩ = ⟨(a ++ b).toArray⟩ := by
  apply ByteArray.ext
  show ((⟨a.toArray⟩ : ByteArray) ++ ⟨b.toArray⟩).data = _
  rw [ByteArray.data_append]
  simp
theorem mk_size (a : List UInt8) : (⟨a.toArray⟩ : ByteArray).size = a.length := by show a.toArray.size = _; simp
set_option maxRecDepth 100000 in
set_option maxHeartbeats 1600000 in
theorem l01List_any (A : Option Addr) (c : Nat) (xs : List Int) (B : Nat) (w : World) (hn : (xs.length : Int) ≤ 1048576) (hI : Ints B w A xs) (hB : B ≤ w.heap.size) (hT : Fits xs) :
    Calls Tryd.prog 48 #[.slice A xs.length c] w fun e w' => e = .returned (.string ⟨(listT xs).toArray⟩) ∧ Below w.heap.size w w' := by
  by_cases h0 : xs.length = 0
  · have HL : Hid (listT xs = [45]) := Lib.hid (by unfold listT; rw [if_pos h0])
    obtain rfl := List.eq_nil_of_length_eq_zero h0
    rw [HL.out]
    go_enter Tryd.func48, Tryd.ntmps48
    go_wp2
    go_ret
    exact ⟨rfl, Below.refl _ _⟩
  have HL : Hid (listT xs = joinUp xs xs.length) := Lib.hid (by unfold listT; rw [if_neg h0])
  have J := Lib.hid (hI.more hB)
  have HT := Lib.hid hT
  have HJ := Lib.hid (joinUp_len xs hT)
  have hn0 : ((xs.length : Int) == 0) = false := by rw [beq_eq_false_iff_ne]; omega
  rw [HL.out]
  clear hI hT
  go_enter Tryd.func48, Tryd.ntmps48
  go_wp2
  go_loopw [3, 4] (fun s i wr => ∃ k : Nat, k ≤ xs.length ∧ i = .int .i64 k ∧ s = .string ⟨(joinUp xs k).toArray⟩ ∧ Below w.heap.size w wr) (fun _ i _ => xs.length - (intOf i).toNat)
  case atStart => exact ⟨0, Nat.zero_le _, rfl, rfl, Below.refl _ _⟩
  case round =>
    obtain ⟨k, hk, rfl, rfl, hb⟩ := hrel
    by_cases hlt : k < xs.length
    · obtain ⟨ad, rfl, _, hc⟩ := (J.out.below hb).atD hlt
      have hx : -9223372036854775808 ≤ xs.getD k 0 ∧ xs.getD k 0 ≤ 9223372036854775807 := by rw [show xs.getD k 0 = xs[k] by simp [List.getD, hlt]]; exact HT.out _ (List.getElem_mem hlt)
      have hd := Lib.hid (l01Dec_any (xs.getD k 0) wr hx.1 hx.2)
      have hil := itoa_len hx.1 hx.2
      have hjl := HJ.out k hk
      have i0 : (0 : Int) ≤ (k : Int) := by omega
      have i1 : (k : Int) < xs.length := by omega
      have HS : Hid (joinUp xs (k + 1) = joinUp xs k ++ ((if k = 0 then [] else [44]) ++ Lib.itoa (xs.getD k 0))) := Lib.hid rfl
      generalize xs.getD k 0 = x at *
      generalize joinUp xs k = js at *
      generalize Lib.itoa x = ds at *
      have hov : ¬ (9223372036854775807 < (⟨ds.toArray⟩ : ByteArray).size + (⟨js.toArray⟩ : ByteArray).size) := by rw [mk_size, mk_size]; omega
      have hov0 : ¬ (9223372036854775807 < (⟨js.toArray⟩ : ByteArray).size + (⟨ds.toArray⟩ : ByteArray).size) := by rw [mk_size, mk_size]; omega
      have hov1 : ¬ (9223372036854775807 < (⟨js.toArray⟩ : ByteArray).size + 1) := by rw [mk_size]; omega
      have hov2 : ¬ (9223372036854775807 < (⟨js.toArray⟩ : ByteArray).size + 1 + (⟨ds.toArray⟩ : ByteArray).size) := by rw [mk_size, mk_size]; omega
      by_cases hk0 : k = 0
      · have hz : ¬ (0 : Int) < (k : Int) := by omega
        rw [if_pos hk0] at HS
        clear hk0 hjl hil
        go_wp2_with fail
        refine hd.out.mono ?_
        rintro e w2 ⟨rfl, hb2⟩
        go_wp2_with fail
        go_roundw
        case rel => exact ⟨k + 1, by omega, by go_num, by rw [HS.out, mk_append, List.nil_append], hb.trans (hb2.mono hb.size)⟩
        case measure => simp [intOf]; omega
      · have hz : (0 : Int) < (k : Int) := by omega
        rw [if_neg hk0] at HS
        clear hk0 hjl hil
        go_wp2_with fail
        refine hd.out.mono ?_
        rintro e w2 ⟨rfl, hb2⟩
        go_wp2_with fail
        go_roundw
        case rel =>
          refine ⟨k + 1, by omega, by go_num, ?_, hb.trans (hb2.mono hb.size)⟩
          rw [HS.out, ← List.append_assoc, ← mk_append, ← mk_append]
        case measure => simp [intOf]; omega
    · obtain rfl : k = xs.length := by omega
      go_wp2
      go_ret
      exact ⟨rfl, hb⟩
end Go.Proofs.YtemidjejelmdlaaDoor
