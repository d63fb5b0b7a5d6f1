/- A heading as text: by the program and by the reference; and the walk of the law. Conditions: the table of powers lies in memory; the facts on memory and on lengths that each theorem names. Printed by gen_txt.py. -/
import Derived.Test.YtemidjejelmdlaaDoorTxW
import Derived.Test.YtemidjejelmdlaaDoorHead
namespace Go.Proofs.YtemidjejelmdlaaDoor
open Go.RowKit
open Pl
def headingT (s : ByteArray) (v r : Int) : ByteArray := s ++ ⟨#[32]⟩ ++ ⟨(listT [v, r]).toArray⟩
noncomputable def headingS (s : ByteArray) (v r : Int) : ByteArray := if headingB s v r then headingT s v r else ⟨#[]⟩
theorem heading_fits {s : ByteArray} {v r : Int} (h : headingB s v r = true) : ∀ z ∈ [v, r], -1000000000000 ≤ z ∧ z ≤ 1000000000000 := by
  unfold headingB at h
  simp only [Bool.and_eq_true] at h
  obtain ⟨_, h0, h1⟩ := h
  have := inB_iff.1 h0
  have := inB_iff.1 h1
  intro z hz
  simp only [List.mem_cons, List.not_mem_nil, or_false] at hz
  rcases hz with rfl | rfl <;> omega
theorem heading_name {s : ByteArray} {v r : Int} (h : headingB s v r = true) : s.size ≤ 10 := by
  unfold headingB at h
  simp only [Bool.and_eq_true] at h
  exact name_size h.1
set_option maxRecDepth 100000 in
set_option maxHeartbeats 3200000 in
theorem l15Text_any (b o : Nat) (s : ByteArray) (v r : Int) (w : World) (hs : s.size ≤ 10) (hF : Fits [v, r]) (c0 : w.cell? ⟨b, o, none⟩ = some (.string s)) (c1 : w.cell? ⟨b, o + 1, none⟩ = some (.int .i64 v)) (c2 : w.cell? ⟨b, o + 2, none⟩ = some (.int .i64 r)) :
    Calls Tryd.prog 34 #[.pointer (some ⟨b, o, none⟩)] w fun e w' => e = .returned (.string (headingT s v r)) ∧ Below w.heap.size w w' := by
  have HF := Lib.hid hF
  have hll := listT_len hF (by simp)
  unfold headingT
  rw [← mk_size (listT [v, r])] at hll
  generalize hL : (⟨(listT [v, r]).toArray⟩ : ByteArray) = L at *
  have HL := Lib.hid hL
  have hv1 : ¬ (9223372036854775807 < s.size + 1) := by omega
  have hv2 : ¬ (9223372036854775807 < s.size + 1 + L.size) := by omega
  clear hF hL hll
  go_enter Tryd.func34, Tryd.ntmps34
  go_wp2_with fail
  go_region_held3 (fun w' => w'.cell? ⟨b, o, none⟩ = some (.string s) ∧ w'.cell? ⟨b, o + 1, none⟩ = some (.int .i64 v) ∧ w'.cell? ⟨b, o + 2, none⟩ = some (.int .i64 r))
    (first
      | go_keep
      | exact ⟨Lib.cell?_alloc_some _ c0, Lib.cell?_alloc_some _ c1, Lib.cell?_alloc_some _ c2⟩
      | exact ⟨cell_later hb2 (Lib.cell?_alloc_some _ c0), cell_later hb2 (Lib.cell?_alloc_some _ c1), cell_later hb2 (Lib.cell?_alloc_some _ c2)⟩
      | exact ⟨c0, c1, c2⟩)
    (first
      | (go_at_call 48; refine (l01List_any (some ⟨w.heap.size, 0, none⟩) 2 [v, r] _ _ (by simp) (ints2 ?_ ?_) (Nat.le_refl _) HF.out).mono ?_; (go_simp); (go_simp); rw [HL.out]; rintro e w2 ⟨rfl, hb2⟩))
  all_goals
    go_wp2_with fail
    go_ret
    exact ⟨rfl, by first | exact (Below.drew ((Below.refl w.heap.size w).alloc (Nat.le_refl _) _)).trans (hb2.mono (by simp)) | exact ((Below.refl w.heap.size w).alloc (Nat.le_refl _) _).trans (hb2.mono (by simp))⟩
theorem HeadingText_s (s : ByteArray) (v r : Int) (w : World) (hs : s.size ≤ maxLen) (hF : Fits [v, r]) :
    Calls Tryd.prog 13 #[.agg #[.string s, .int .i64 v, .int .i64 r]] w fun e w' => e = .returned (.string (headingS s v r)) ∧ Below w.heap.size w w' := by
  unfold headingS
  have be0 : Below w.heap.size w (w.alloc (.cells #[.string s, .int .i64 v, .int .i64 r] 32)) := by go_grown
  have c0_0 : (w.alloc (.cells #[.string s, .int .i64 v, .int .i64 r] 32)).cell? ⟨w.heap.size, 0, none⟩ = some (.string s) := by go_simp
  have c1_0 : (w.alloc (.cells #[.string s, .int .i64 v, .int .i64 r] 32)).cell? ⟨w.heap.size, 1, none⟩ = some (.int .i64 v) := by go_simp
  have c2_0 : (w.alloc (.cells #[.string s, .int .i64 v, .int .i64 r] 32)).cell? ⟨w.heap.size, 2, none⟩ = some (.int .i64 r) := by go_simp
  have HV := Lib.hid (fun W h0 h1 h2 => (l15Ok_any w.heap.size 0 s v r W hs h0 h1 h2).mono (fun e w' (h : _ ∧ ∃ n, W.drewN n = w') => (⟨h.1, by obtain ⟨_, n, rfl⟩ := h; exact below_drewN (Below.refl _ _) n⟩ : _ ∧ Below W.heap.size W w')))
  cases hd : headingB s v r
  · rw [hd] at HV
    clear hd hF
    go_enter Tryd.func13, Tryd.ntmps13
    go_wp2_with fail
    generalize (w.alloc (.cells #[.string s, .int .i64 v, .int .i64 r] 32)) = w0 at *
    refine (HV.out _ c0_0 c1_0 c2_0).mono ?_
    rintro e w1 ⟨rfl, hb1⟩
    have sz1 : w0.heap.size ≤ w1.heap.size := hb1.size
    have be1 := be0.trans (hb1.mono be0.size)
    have c0_1 := cell_later hb1 c0_0
    have c1_1 := cell_later hb1 c1_0
    have c2_1 := cell_later hb1 c2_0
    clear c0_0 c1_0 c2_0
    go_wp2_with fail
    go_ret
    exact ⟨rfl, be1⟩
  · rw [hd] at HV
    have HT := Lib.hid (fun W h0 h1 h2 => l15Text_any w.heap.size 0 s v r W (heading_name hd) hF h0 h1 h2)
    clear hd hF
    go_enter Tryd.func13, Tryd.ntmps13
    go_wp2_with fail
    generalize (w.alloc (.cells #[.string s, .int .i64 v, .int .i64 r] 32)) = w0 at *
    refine (HV.out _ c0_0 c1_0 c2_0).mono ?_
    rintro e w1 ⟨rfl, hb1⟩
    have sz1 : w0.heap.size ≤ w1.heap.size := hb1.size
    have be1 := be0.trans (hb1.mono be0.size)
    have c0_1 := cell_later hb1 c0_0
    have c1_1 := cell_later hb1 c1_0
    have c2_1 := cell_later hb1 c2_0
    clear c0_0 c1_0 c2_0
    go_wp2_with fail
    refine (HT.out _ c0_1 c1_1 c2_1).mono ?_
    rintro e w2 ⟨rfl, hb2⟩
    have sz2 : w1.heap.size ≤ w2.heap.size := hb2.size
    have be2 := be1.trans (hb2.mono be1.size)
    have c0_2 := cell_later hb2 c0_1
    have c1_2 := cell_later hb2 c1_1
    have c2_2 := cell_later hb2 c2_1
    clear c0_1 c1_1 c2_1
    go_wp2_with fail
    go_ret
    exact ⟨rfl, be2⟩
theorem HeadingText_i (s : ByteArray) (v r : Int) (w : World) (hs : s.size ≤ maxLen) (hF : Fits [v, r]) (hTab : Tab w) :
    Calls Tryd.prog 15 #[.agg #[.string s, .int .i64 v, .int .i64 r]] w fun e w' => e = .returned (.string (headingS s v r)) ∧ Below w.heap.size w w' := by
  unfold headingS
  have be0 : Below w.heap.size w (w.alloc (.cells #[.string s, .int .i64 v, .int .i64 r] 32)) := by go_grown
  have c0_0 : (w.alloc (.cells #[.string s, .int .i64 v, .int .i64 r] 32)).cell? ⟨w.heap.size, 0, none⟩ = some (.string s) := by go_simp
  have c1_0 : (w.alloc (.cells #[.string s, .int .i64 v, .int .i64 r] 32)).cell? ⟨w.heap.size, 1, none⟩ = some (.int .i64 v) := by go_simp
  have c2_0 : (w.alloc (.cells #[.string s, .int .i64 v, .int .i64 r] 32)).cell? ⟨w.heap.size, 2, none⟩ = some (.int .i64 r) := by go_simp
  have HV := Lib.hid (fun W => ValidHeading_i s v r W hs)
  have HTab := Lib.hid hTab
  have HF := Lib.hid hF
  clear hF hTab
  cases hd : headingB s v r
  · rw [hd] at HV
    clear hd
    go_enter Tryd.func15, Tryd.ntmps15
    go_wp2_with fail
    generalize (w.alloc (.cells #[.string s, .int .i64 v, .int .i64 r] 32)) = w0 at *
    refine (HV.out _).mono ?_
    rintro e w1 ⟨rfl, hb1⟩
    have sz1 : w0.heap.size ≤ w1.heap.size := hb1.size
    have be1 := be0.trans (hb1.mono be0.size)
    have c0_1 := cell_later hb1 c0_0
    have c1_1 := cell_later hb1 c1_0
    have c2_1 := cell_later hb1 c2_0
    clear c0_0 c1_0 c2_0
    go_wp2_with fail
    go_ret
    exact ⟨rfl, be1⟩
  · rw [hd] at HV
    have HE := Lib.hid (okT_of (xs := [v, r]) (by simp) (heading_fits hd))
    have hs10 := heading_name hd
    clear hd
    go_enter Tryd.func15, Tryd.ntmps15
    go_wp2_with fail
    generalize (w.alloc (.cells #[.string s, .int .i64 v, .int .i64 r] 32)) = w0 at *
    refine (HV.out _).mono ?_
    rintro e w1 ⟨rfl, hb1⟩
    have sz1 : w0.heap.size ≤ w1.heap.size := hb1.size
    have be1 := be0.trans (hb1.mono be0.size)
    have c0_1 := cell_later hb1 c0_0
    have c1_1 := cell_later hb1 c1_0
    have c2_1 := cell_later hb1 c2_0
    clear c0_0 c1_0 c2_0
    go_wp2_with fail
    have be1' := be1.alloc be1.size (.cells #[.int .i64 v, .int .i64 r] 2)
    have HL := withId_any s (some ⟨w1.heap.size, 0, none⟩) 2 [v, r] (w1.alloc (.cells #[.int .i64 v, .int .i64 r] 2)).heap.size (w1.alloc (.cells #[.int .i64 v, .int .i64 r] 2)) (by omega) (by simp) (ints2 (by go_simp) (by go_simp)) (Nat.le_refl _) HF.out (HTab.out.later be1')
    rw [HE.out] at HL
    refine HL.mono ?_
    rintro e w2 ⟨rfl, hb2⟩
    go_wp2_with fail
    go_ret
    exact ⟨rfl, be1'.trans (hb2.mono be1'.size)⟩
set_option maxHeartbeats 1600000 in
theorem fnExactHeadingText_walk (s : ByteArray) (hs : s.size ≤ maxLen) (v : Int) (_ : -9223372036854775808 ≤ v ∧ v ≤ 9223372036854775807) (r : Int) (_ : -9223372036854775808 ≤ r ∧ r ≤ 9223372036854775807) (w : World) (hTab : Tab w) :
    Calls Tryd.prog 4 #[.agg #[.string s, .int .i64 v, .int .i64 r]] w fun e w' => e = .returned (.bool true) ∧ Below w.heap.size w w' := by
  have hF : Fits [v, r] := by
    intro z hz
    simp only [List.mem_cons, List.not_mem_nil, or_false] at hz
    rcases hz with rfl | rfl <;> omega
  have be0 : Below w.heap.size w (w.alloc (.cells #[.string s, .int .i64 v, .int .i64 r] 29)) := by go_grown
  have c0_0 : (w.alloc (.cells #[.string s, .int .i64 v, .int .i64 r] 29)).cell? ⟨w.heap.size, 0, none⟩ = some (.string s) := by go_simp
  have c1_0 : (w.alloc (.cells #[.string s, .int .i64 v, .int .i64 r] 29)).cell? ⟨w.heap.size, 1, none⟩ = some (.int .i64 v) := by go_simp
  have c2_0 : (w.alloc (.cells #[.string s, .int .i64 v, .int .i64 r] 29)).cell? ⟨w.heap.size, 2, none⟩ = some (.int .i64 r) := by go_simp
  have HF := Lib.hid hF
  have HTab := Lib.hid hTab
  have HD := Lib.hid (fun W => toHeading_any s v r W)
  have hsm : s.size ≤ 9223372036854775807 := by unfold maxLen at hs; omega
  have HSM := Lib.hid hs
  clear hF hTab hs
  by_cases h : (s.size : Int) ≤ 1048576
  · go_enter Tryd.func4, Tryd.ntmps4
    go_wp2_with fail
    generalize (w.alloc (.cells #[.string s, .int .i64 v, .int .i64 r] 29)) = w0 at *
    refine (szHeading_yes s v r 1048576 _ (by omega) h).mono ?_
    rintro e w1 ⟨rfl, hb1⟩
    have sz1 : w0.heap.size ≤ w1.heap.size := hb1.size
    have be1 := be0.trans (hb1.mono be0.size)
    have c0_1 := cell_later hb1 c0_0
    have c1_1 := cell_later hb1 c1_0
    have c2_1 := cell_later hb1 c2_0
    clear c0_0 c1_0 c2_0
    go_wp2_with fail
    refine (HD.out _).mono ?_
    rintro e w2 ⟨rfl, hb2⟩
    have sz2 : w1.heap.size ≤ w2.heap.size := hb2.size
    have be2 := be1.trans (hb2.mono be1.size)
    have c0_2 := cell_later hb2 c0_1
    have c1_2 := cell_later hb2 c1_1
    have c2_2 := cell_later hb2 c2_1
    clear c0_1 c1_1 c2_1
    go_wp2_with fail
    refine (HeadingText_s s v r _ HSM.out HF.out).mono ?_
    rintro e w3 ⟨rfl, hb3⟩
    have sz3 : w2.heap.size ≤ w3.heap.size := hb3.size
    have be3 := be2.trans (hb3.mono be2.size)
    have c0_3 := cell_later hb3 c0_2
    have c1_3 := cell_later hb3 c1_2
    have c2_3 := cell_later hb3 c2_2
    clear c0_2 c1_2 c2_2
    go_wp2_with fail
    refine (HD.out _).mono ?_
    rintro e w4 ⟨rfl, hb4⟩
    have sz4 : w3.heap.size ≤ w4.heap.size := hb4.size
    have be4 := be3.trans (hb4.mono be3.size)
    have c0_4 := cell_later hb4 c0_3
    have c1_4 := cell_later hb4 c1_3
    have c2_4 := cell_later hb4 c2_3
    clear c0_3 c1_3 c2_3
    go_wp2_with fail
    refine (HeadingText_i s v r _ HSM.out HF.out (HTab.out.later be4)).mono ?_
    rintro e w5 ⟨rfl, hb5⟩
    have sz5 : w4.heap.size ≤ w5.heap.size := hb5.size
    have be5 := be4.trans (hb5.mono be4.size)
    have c0_5 := cell_later hb5 c0_4
    have c1_5 := cell_later hb5 c1_4
    have c2_5 := cell_later hb5 c2_4
    clear c0_4 c1_4 c2_4
    go_wp2_with fail
    go_ret
    exact ⟨rfl, be5⟩
  · go_enter Tryd.func4, Tryd.ntmps4
    go_wp2_with fail
    generalize (w.alloc (.cells #[.string s, .int .i64 v, .int .i64 r] 29)) = w0 at *
    refine (szHeading_no s v r 1048576 _ (by omega) (by omega) HSM.out (by omega)).mono ?_
    rintro e w1 ⟨rfl, hb1⟩
    have sz1 : w0.heap.size ≤ w1.heap.size := hb1.size
    have be1 := be0.trans (hb1.mono be0.size)
    have c0_1 := cell_later hb1 c0_0
    have c1_1 := cell_later hb1 c1_0
    have c2_1 := cell_later hb1 c2_0
    clear c0_0 c1_0 c2_0
    go_wp2_with fail
    go_ret
    exact ⟨rfl, be1⟩
end Go.Proofs.YtemidjejelmdlaaDoor
