/- Numbers as decimal text, by the program. Conditions: the table of powers lies in memory; the facts on memory and on lengths that each theorem names. -/
import Derived.Test.YtemidjejelmdlaaDoorTxS
import Derived.Test.YtemidjejelmdlaaDoorShA
import Derived.Lib.AppendIntMem
import Derived.OwnWalk
namespace Go.Proofs.YtemidjejelmdlaaDoor
open Go.RowKit
open Pl
/-- The table of powers lies in memory, and stays. -/
def Tab (w : World) : Prop := ∀ W, Below w.heap.size w W → Lib.TabIs Tryd.prog W "internal/strconv.uint64pow10" .u64 Lib.pow10Tab
theorem Tab.later {w w' : World} (h : Tab w) (hb : Below w.heap.size w w') : Tab w' := fun W hW => h W (hb.trans (hW.mono hb.size))
theorem Tab.here {w : World} (h : Tab w) : Lib.TabIs Tryd.prog w "internal/strconv.uint64pow10" .u64 Lib.pow10Tab := h w (Below.refl _ _)
theorem Decimal_any (n : Int) (w : World) (h1 : -9223372036854775808 ≤ n) (h2 : n ≤ 9223372036854775807) (hT : Tab w) :
    Calls Tryd.prog 51 #[.int .i64 n] w fun e w' => e = .returned (.string ⟨(Lib.itoa n).toArray⟩) ∧ Below w.heap.size w w' := by
  have H := Lib.hid (Tryd.strconv_FormatInt_10 n h1 h2 w hT.here)
  clear hT
  go_enter Tryd.func51, Tryd.ntmps51
  go_wp2_with fail
  refine H.out.mono ?_
  rintro e w' ⟨rfl, k, os, rfl⟩
  have hb := Lib.below_grow w.heap.size w (Nat.le_refl _) k os
  go_wp2_with fail
  go_ret
  exact ⟨rfl, hb⟩
def strT (n : Int) : ByteArray := ⟨(Lib.itoa n).toArray⟩
theorem infoS : (Tryd.prog.info? 9).map (fun i => (i.zero, i.size, i.bytes)) = some (some (.string ByteArray.empty), 1, 16) := by kernel_rfl
theorem okT_long {xs : List Int} (h : ¬ (xs.length : Int) ≤ 64) : textT xs = [] := by unfold textT okT; rw [decide_eq_false h]; rfl
theorem okT_stop {xs : List Int} {m : Nat} (h : (xs.length : Int) ≤ 64) (m1 : m ≤ xs.length) (m2 : ∀ k, k < m → inB (xs.getD k 0) (-1000000000000) 1000000000000 = true) (m3 : m < xs.length → inB (xs.getD m 0) (-1000000000000) 1000000000000 = false) : okT xs = decide (m = xs.length) := by
  unfold okT
  rw [decide_eq_true h, allIn_up, allUp_stop m1 m2 m3]
  rfl
theorem take_snoc {xs : List Int} {k : Nat} (h : k < xs.length) : (xs.take (k + 1)).map strT = (xs.take k).map strT ++ [strT (xs.getD k 0)] := by
  rw [List.take_succ_eq_append_getElem h, List.map_append, show xs.getD k 0 = xs[k] by simp [List.getD, h]]
  rfl
set_option maxRecDepth 100000 in
set_option maxHeartbeats 1600000 in
theorem ListText_any (A : Option Addr) (c : Nat) (xs : List Int) (B : Nat) (w : World) (hn : (xs.length : Int) ≤ 1048576) (hI : Ints B w A xs) (hB : B ≤ w.heap.size) (hT : Fits xs) (hTab : Tab w) :
    Calls Tryd.prog 32 #[.slice A xs.length c] w fun e w' => e = .returned (.string ⟨(textT xs).toArray⟩) ∧ Below w.heap.size w w' := by
  obtain ⟨R, hR⟩ : ∃ R, R = textT xs := ⟨_, rfl⟩
  rw [← hR]
  have HR := Lib.hid hR
  clear hR
  by_cases h64 : (xs.length : Int) ≤ 64
  rotate_left
  · have HG := Lib.hid (HR.out.trans (okT_long h64))
    go_enter Tryd.func32, Tryd.ntmps32
    go_wp2
    go_ret
    exact ⟨by rw [HG.out]; rfl, Below.refl _ _⟩
  by_cases h0 : xs.length = 0
  · have HG : Hid (R = [45]) := Lib.hid (HR.out.trans (by obtain rfl := List.eq_nil_of_length_eq_zero h0; rfl))
    have h0b : ((xs.length : Int) == 0) = true := by rw [beq_iff_eq]; omega
    go_enter Tryd.func32, Tryd.ntmps32
    go_wp2
    go_ret
    exact ⟨by rw [HG.out]; rfl, Below.refl _ _⟩
  obtain ⟨m, m1, m2, m3⟩ := first_stop (fun k => inB (xs.getD k 0) (-1000000000000) 1000000000000) xs.length
  have HK := Lib.hid (okT_stop h64 m1 m2 m3)
  have M2 := Lib.hid m2
  have M3 := Lib.hid m3
  have J := Lib.hid (hI.more hB)
  have HT := Lib.hid hT
  have HTab := Lib.hid hTab
  have hn0 : ((xs.length : Int) == 0) = false := by rw [beq_eq_false_iff_ne]; omega
  obtain ⟨i0, hi, hz0, hz1, hz2⟩ := info_parts infoS
  have hbb : i0.bytes * xs.length ≤ 281474976710656 := by rw [hz2]; omega
  have hmx : xs.length ≤ maxLen := le_max (by omega)
  have HF := Lib.hid (And.intro hi (And.intro hz0 (And.intro hz1 hz2)))
  clear m2 m3 hI hT hTab hi hz0 hz1 hz2
  go_enter Tryd.func32, Tryd.ntmps32
  go_wp2_with (at_make; refine wpList_make_own _ rfl (.const (.int .i64 0)) (.tmp 13) 69 rfl w.heap.size 9 i0 (.string ByteArray.empty) 1 Tryd.underlying69 HF.out.1 HF.out.2.1 HF.out.2.2.1 .i64 .i64 (xs.length : Int) xs.length rfl rfl rfl hbb hmx (Nat.le_refl _) ?_; intro w1 hown hgr)
  have hbe : Below w.heap.size w w1 := (Below.refl _ _).grown hgr (Nat.le_refl _) (fun k hk => by cases hk)
  have HOW : Hid (OwnR 9 encS 1 w.heap.size w1 (.slice (some ⟨w.heap.size, 0, none⟩) 0 xs.length) ((xs.take 0).map strT)) := Lib.hid hown
  clear hown hgr hbb hmx
  go_wp2
  go_loopw [3, 17] (fun u i wr => ∃ k : Nat, k ≤ m ∧ i = .int .i64 k ∧ OwnR 9 encS 1 w.heap.size wr u ((xs.take k).map strT) ∧ Below w.heap.size w wr) (fun _ i _ => xs.length - (intOf i).toNat)
  case atStart => exact ⟨0, Nat.zero_le _, rfl, HOW.out, hbe⟩
  case round =>
    obtain ⟨k, hk, rfl, ho, hb⟩ := hrel
    have HO1 := Lib.hid ho
    clear ho HOW hbe
    by_cases hlt : k < xs.length
    · obtain ⟨ad, rfl, _, hc⟩ := (J.out.below hb).atD hlt
      have i0' : (0 : Int) ≤ (k : Int) := by omega
      have i1' : (k : Int) < xs.length := by omega
      by_cases hkm : k < m
      · have hp := M2.out k hkm
        have hx := inB_iff.1 hp
        have HS := Lib.hid (take_snoc hlt)
        have hl : ((xs.take k).map strT).length ≤ 64 := by rw [List.length_map, List.length_take]; omega
        generalize (xs.take k).map strT = ts at *
        generalize xs.getD k 0 = x at *
        have HW := Lib.hid (fun W => eqb (within_any x (-1000000000000) 1000000000000 W) hp)
        have HD := Lib.hid (Decimal_any x wr (by omega) (by omega) (HTab.out.later hb))
        clear hp
        go_wp2_with (go_at_call 49; refine (HW.out _).mono ?_; rintro e w' ⟨rfl, rfl⟩)
        refine HD.out.mono ?_
        rintro e w2 ⟨rfl, hb2⟩
        have HO2 := Lib.hid (HO1.out.later hb2)
        have hb3 := hb.trans (hb2.mono hb.size)
        have hsz := hb3.size
        go_wp2_with (at_builtin; refine wpList_append_own_at _ rfl _ _ 69 rfl w.heap.size 9 i0 (.string ByteArray.empty) 1 16 Tryd.underlying69 HF.out.1 HF.out.2.1 HF.out.2.2.1 HF.out.2.2.2 rfl (by decide) _ _ _ rfl (HO2.out.later ((Below.refl _ _).alloc (Nat.le_refl _) _)) ⟨w2.heap.size, 0, none⟩ 1 1 [.string _] rfl rfl (cell_one_new _ _ _) (by intro u hu; simp at hu; subst hu; rfl) (le_max (by omega)) (by omega) (by simp; omega) ?_; intro av aw ah ag an aa)
        have hbe := Below.appendR hb3 HO2.out hsz ag
        have HO3 := Lib.hid (OwnR.appended (x := strT x) rfl ah)
        clear ah ag an aa
        go_roundw
        case rel => exact ⟨k + 1, by omega, by go_num, by rw [HS.out]; exact HO3.out, hbe⟩
        case measure => simp [intOf]; omega
      · obtain rfl : m = k := by omega
        have HG : Hid (R = []) := Lib.hid (by rw [HR.out]; unfold textT; rw [HK.out, decide_eq_false (by omega)]; rfl)
        have hp := M3.out hlt
        generalize xs.getD m 0 = x at *
        have HW := Lib.hid (fun W => eqb (within_any x (-1000000000000) 1000000000000 W) hp)
        clear hp
        go_wp2_with (go_at_call 49; refine (HW.out _).mono ?_; rintro e w' ⟨rfl, rfl⟩)
        go_ret
        exact ⟨by rw [HG.out]; rfl, hb⟩
    · obtain rfl : k = xs.length := by omega
      have HG : Hid (R = Lib.join (xs.map Lib.itoa) [44]) := Lib.hid (by
        rw [HR.out]; unfold textT listT
        rw [HK.out, decide_eq_true (by omega), if_pos rfl, if_neg h0, joinUp_eq xs _ (Nat.le_refl _), List.take_length])
      have HJL : Hid ((Lib.join (xs.map Lib.itoa) [44]).length ≤ 140737488355328) := Lib.hid (by
        have := joinUp_len xs HT.out xs.length (Nat.le_refl _)
        rw [joinUp_eq xs _ (Nat.le_refl _), List.take_length] at this
        omega)
      rw [List.take_length] at HO1
      obtain ⟨g, cap, rfl, hg1, hcap⟩ : ∃ g cap, u3 = .slice (some ⟨g, 0, none⟩) xs.length cap ∧ g < wr.heap.size ∧ xs.length ≤ cap := by
        rcases HO1.out.2 with ⟨_, hl⟩ | ⟨g, cap, cur, hv, hb, hg, hle, _⟩
        · rw [List.length_map] at hl; omega
        · rw [List.length_map] at hv hle
          exact ⟨g, cap, hv, (Array.getElem?_eq_some_iff.1 hg).1, hle⟩
      have hmm : ∀ l : List Int, (l.map strT).map (·.data.toList) = l.map Lib.itoa := fun l => by
        rw [List.map_map]; exact List.map_congr_left (fun x _ => by simp [strT])
      have HX : Hid (Calls Tryd.prog 52 #[.slice (some ⟨g, 0, none⟩) xs.length cap, .string ⟨#[44]⟩] wr fun e w' => e = .returned (.string ⟨R.toArray⟩) ∧ Below wr.heap.size wr w') := Lib.hid (by
        have h := Tryd.strings_Join g 0 cap (xs.map strT) ⟨#[44]⟩ wr (fun j x hj => by
          have hjl : j < (xs.map strT).length := (List.getElem?_eq_some_iff.1 hj).1
          have hr := HO1.out.rows (n := xs.length) (c := cap) encS_len
          obtain ⟨b, o, e, _, hc⟩ := hr.str hjl
          cases e
          rw [hc]
          rw [show (xs.map strT).getD j ByteArray.empty = x by simp [List.getD, hj]]) hg1 (by rw [List.length_map]; omega) (by rw [List.length_map]; exact hcap) (by rw [hmm]; exact HJL.out)
        rw [hmm, List.length_map] at h
        rw [HG.out]
        exact h)
      clear HO1 hmm HJL
      go_wp2_with fail
      refine HX.out.mono ?_
      rintro e w2 ⟨rfl, hb2⟩
      go_wp2_with fail
      go_ret
      exact ⟨rfl, hb.trans (hb2.mono hb.size)⟩
end Go.Proofs.YtemidjejelmdlaaDoor
