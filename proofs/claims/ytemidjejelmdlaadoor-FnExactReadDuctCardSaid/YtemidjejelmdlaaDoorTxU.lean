/- A duct as text: by the program and by the reference; and the walk of the law. Conditions: the table of powers lies in memory; the facts on memory and on lengths that each theorem names. Printed by gen_txt.py. -/
import Derived.Test.YtemidjejelmdlaaDoorTxW
import Derived.Test.YtemidjejelmdlaaDoorDuct
namespace Go.Proofs.YtemidjejelmdlaaDoor
open Go.RowKit
open Pl
def ductT (s : ByteArray) (l j x : Int) : ByteArray := s ++ ⟨#[32]⟩ ++ ⟨(listT [l, j, x]).toArray⟩
noncomputable def ductS (s : ByteArray) (l j x : Int) : ByteArray := if ductB s l j x then ductT s l j x else ⟨#[]⟩
theorem duct_fits {s : ByteArray} {l j x : Int} (h : ductB s l j x = true) : ∀ z ∈ [l, j, x], -1000000000000 ≤ z ∧ z ≤ 1000000000000 := by
  unfold ductB at h
  simp only [Bool.and_eq_true] at h
  obtain ⟨_, h0, h1, h2⟩ := h
  have := inB_iff.1 h0
  have := inB_iff.1 h1
  have := inB_iff.1 h2
  intro z hz
  simp only [List.mem_cons, List.not_mem_nil, or_false] at hz
  rcases hz with rfl | rfl | rfl <;> omega
theorem duct_name {s : ByteArray} {l j x : Int} (h : ductB s l j x = true) : s.size ≤ 10 := by
  unfold ductB at h
  simp only [Bool.and_eq_true] at h
  exact name_size h.1
set_option maxRecDepth 100000 in
set_option maxHeartbeats 3200000 in
theorem l11Text_any (b o : Nat) (s : ByteArray) (l j x : Int) (w : World) (hs : s.size ≤ 10) (hF : Fits [l, j, x]) (c0 : w.cell? ⟨b, o, none⟩ = some (.string s)) (c1 : w.cell? ⟨b, o + 1, none⟩ = some (.int .i64 l)) (c2 : w.cell? ⟨b, o + 2, none⟩ = some (.int .i64 j)) (c3 : w.cell? ⟨b, o + 3, none⟩ = some (.int .i64 x)) :
    Calls Tryd.prog 38 #[.pointer (some ⟨b, o, none⟩)] w fun e w' => e = .returned (.string (ductT s l j x)) ∧ Below w.heap.size w w' := by
  have HF := Lib.hid hF
  have hll := listT_len hF (by simp)
  unfold ductT
  rw [← mk_size (listT [l, j, x])] at hll
  generalize hL : (⟨(listT [l, j, x]).toArray⟩ : ByteArray) = L at *
  have HL := Lib.hid hL
  have hv1 : ¬ (9223372036854775807 < s.size + 1) := by omega
  have hv2 : ¬ (9223372036854775807 < s.size + 1 + L.size) := by omega
  clear hF hL hll
  go_enter Tryd.func38, Tryd.ntmps38
  go_wp2_with fail
  go_region_held3 (fun w' => w'.cell? ⟨b, o, none⟩ = some (.string s) ∧ w'.cell? ⟨b, o + 1, none⟩ = some (.int .i64 l) ∧ w'.cell? ⟨b, o + 2, none⟩ = some (.int .i64 j) ∧ w'.cell? ⟨b, o + 3, none⟩ = some (.int .i64 x))
    (first
      | go_keep
      | exact ⟨Lib.cell?_alloc_some _ c0, Lib.cell?_alloc_some _ c1, Lib.cell?_alloc_some _ c2, Lib.cell?_alloc_some _ c3⟩
      | exact ⟨cell_later hb2 (Lib.cell?_alloc_some _ c0), cell_later hb2 (Lib.cell?_alloc_some _ c1), cell_later hb2 (Lib.cell?_alloc_some _ c2), cell_later hb2 (Lib.cell?_alloc_some _ c3)⟩
      | exact ⟨c0, c1, c2, c3⟩)
    (first
      | (go_at_call 48; refine (l01List_any (some ⟨w.heap.size, 0, none⟩) 3 [l, j, x] _ _ (by simp) (ints3 ?_ ?_ ?_) (Nat.le_refl _) HF.out).mono ?_; (go_simp); (go_simp); (go_simp); rw [HL.out]; rintro e w2 ⟨rfl, hb2⟩))
  all_goals
    go_wp2_with fail
    go_ret
    exact ⟨rfl, by first | exact (Below.drew ((Below.refl w.heap.size w).alloc (Nat.le_refl _) _)).trans (hb2.mono (by simp)) | exact ((Below.refl w.heap.size w).alloc (Nat.le_refl _) _).trans (hb2.mono (by simp))⟩
theorem DuctText_s (s : ByteArray) (l j x : Int) (w : World) (hs : s.size ≤ maxLen) (hF : Fits [l, j, x]) :
    Calls Tryd.prog 17 #[.agg #[.string s, .int .i64 l, .int .i64 j, .int .i64 x]] w fun e w' => e = .returned (.string (ductS s l j x)) ∧ Below w.heap.size w w' := by
  unfold ductS
  have be0 : Below w.heap.size w (w.alloc (.cells #[.string s, .int .i64 l, .int .i64 j, .int .i64 x] 39)) := by go_grown
  have c0_0 : (w.alloc (.cells #[.string s, .int .i64 l, .int .i64 j, .int .i64 x] 39)).cell? ⟨w.heap.size, 0, none⟩ = some (.string s) := by go_simp
  have c1_0 : (w.alloc (.cells #[.string s, .int .i64 l, .int .i64 j, .int .i64 x] 39)).cell? ⟨w.heap.size, 1, none⟩ = some (.int .i64 l) := by go_simp
  have c2_0 : (w.alloc (.cells #[.string s, .int .i64 l, .int .i64 j, .int .i64 x] 39)).cell? ⟨w.heap.size, 2, none⟩ = some (.int .i64 j) := by go_simp
  have c3_0 : (w.alloc (.cells #[.string s, .int .i64 l, .int .i64 j, .int .i64 x] 39)).cell? ⟨w.heap.size, 3, none⟩ = some (.int .i64 x) := by go_simp
  have HV := Lib.hid (fun W h0 h1 h2 h3 => (l11Ok_any w.heap.size 0 s l j x W hs h0 h1 h2 h3).mono (fun e w' (h : _ ∧ ∃ n, W.drewN n = w') => (⟨h.1, by obtain ⟨_, n, rfl⟩ := h; exact below_drewN (Below.refl _ _) n⟩ : _ ∧ Below W.heap.size W w')))
  cases hd : ductB s l j x
  · rw [hd] at HV
    clear hd hF
    go_enter Tryd.func17, Tryd.ntmps17
    go_wp2_with fail
    generalize (w.alloc (.cells #[.string s, .int .i64 l, .int .i64 j, .int .i64 x] 39)) = w0 at *
    refine (HV.out _ c0_0 c1_0 c2_0 c3_0).mono ?_
    rintro e w1 ⟨rfl, hb1⟩
    have sz1 : w0.heap.size ≤ w1.heap.size := hb1.size
    have be1 := be0.trans (hb1.mono be0.size)
    have c0_1 := cell_later hb1 c0_0
    have c1_1 := cell_later hb1 c1_0
    have c2_1 := cell_later hb1 c2_0
    have c3_1 := cell_later hb1 c3_0
    clear c0_0 c1_0 c2_0 c3_0
    go_wp2_with fail
    go_ret
    exact ⟨rfl, be1⟩
  · rw [hd] at HV
    have HT := Lib.hid (fun W h0 h1 h2 h3 => l11Text_any w.heap.size 0 s l j x W (duct_name hd) hF h0 h1 h2 h3)
    clear hd hF
    go_enter Tryd.func17, Tryd.ntmps17
    go_wp2_with fail
    generalize (w.alloc (.cells #[.string s, .int .i64 l, .int .i64 j, .int .i64 x] 39)) = w0 at *
    refine (HV.out _ c0_0 c1_0 c2_0 c3_0).mono ?_
    rintro e w1 ⟨rfl, hb1⟩
    have sz1 : w0.heap.size ≤ w1.heap.size := hb1.size
    have be1 := be0.trans (hb1.mono be0.size)
    have c0_1 := cell_later hb1 c0_0
    have c1_1 := cell_later hb1 c1_0
    have c2_1 := cell_later hb1 c2_0
    have c3_1 := cell_later hb1 c3_0
    clear c0_0 c1_0 c2_0 c3_0
    go_wp2_with fail
    refine (HT.out _ c0_1 c1_1 c2_1 c3_1).mono ?_
    rintro e w2 ⟨rfl, hb2⟩
    have sz2 : w1.heap.size ≤ w2.heap.size := hb2.size
    have be2 := be1.trans (hb2.mono be1.size)
    have c0_2 := cell_later hb2 c0_1
    have c1_2 := cell_later hb2 c1_1
    have c2_2 := cell_later hb2 c2_1
    have c3_2 := cell_later hb2 c3_1
    clear c0_1 c1_1 c2_1 c3_1
    go_wp2_with fail
    go_ret
    exact ⟨rfl, be2⟩
theorem DuctText_i (s : ByteArray) (l j x : Int) (w : World) (hs : s.size ≤ maxLen) (hF : Fits [l, j, x]) (hTab : Tab w) :
    Calls Tryd.prog 19 #[.agg #[.string s, .int .i64 l, .int .i64 j, .int .i64 x]] w fun e w' => e = .returned (.string (ductS s l j x)) ∧ Below w.heap.size w w' := by
  unfold ductS
  have be0 : Below w.heap.size w (w.alloc (.cells #[.string s, .int .i64 l, .int .i64 j, .int .i64 x] 39)) := by go_grown
  have c0_0 : (w.alloc (.cells #[.string s, .int .i64 l, .int .i64 j, .int .i64 x] 39)).cell? ⟨w.heap.size, 0, none⟩ = some (.string s) := by go_simp
  have c1_0 : (w.alloc (.cells #[.string s, .int .i64 l, .int .i64 j, .int .i64 x] 39)).cell? ⟨w.heap.size, 1, none⟩ = some (.int .i64 l) := by go_simp
  have c2_0 : (w.alloc (.cells #[.string s, .int .i64 l, .int .i64 j, .int .i64 x] 39)).cell? ⟨w.heap.size, 2, none⟩ = some (.int .i64 j) := by go_simp
  have c3_0 : (w.alloc (.cells #[.string s, .int .i64 l, .int .i64 j, .int .i64 x] 39)).cell? ⟨w.heap.size, 3, none⟩ = some (.int .i64 x) := by go_simp
  have HV := Lib.hid (fun W => ValidDuct_i s l j x W hs)
  have HTab := Lib.hid hTab
  have HF := Lib.hid hF
  clear hF hTab
  cases hd : ductB s l j x
  · rw [hd] at HV
    clear hd
    go_enter Tryd.func19, Tryd.ntmps19
    go_wp2_with fail
    generalize (w.alloc (.cells #[.string s, .int .i64 l, .int .i64 j, .int .i64 x] 39)) = w0 at *
    refine (HV.out _).mono ?_
    rintro e w1 ⟨rfl, hb1⟩
    have sz1 : w0.heap.size ≤ w1.heap.size := hb1.size
    have be1 := be0.trans (hb1.mono be0.size)
    have c0_1 := cell_later hb1 c0_0
    have c1_1 := cell_later hb1 c1_0
    have c2_1 := cell_later hb1 c2_0
    have c3_1 := cell_later hb1 c3_0
    clear c0_0 c1_0 c2_0 c3_0
    go_wp2_with fail
    go_ret
    exact ⟨rfl, be1⟩
  · rw [hd] at HV
    have HE := Lib.hid (okT_of (xs := [l, j, x]) (by simp) (duct_fits hd))
    have hs10 := duct_name hd
    clear hd
    go_enter Tryd.func19, Tryd.ntmps19
    go_wp2_with fail
    generalize (w.alloc (.cells #[.string s, .int .i64 l, .int .i64 j, .int .i64 x] 39)) = w0 at *
    refine (HV.out _).mono ?_
    rintro e w1 ⟨rfl, hb1⟩
    have sz1 : w0.heap.size ≤ w1.heap.size := hb1.size
    have be1 := be0.trans (hb1.mono be0.size)
    have c0_1 := cell_later hb1 c0_0
    have c1_1 := cell_later hb1 c1_0
    have c2_1 := cell_later hb1 c2_0
    have c3_1 := cell_later hb1 c3_0
    clear c0_0 c1_0 c2_0 c3_0
    go_wp2_with fail
    have be1' := be1.alloc be1.size (.cells #[.int .i64 l, .int .i64 j, .int .i64 x] 2)
    have HL := withId_any s (some ⟨w1.heap.size, 0, none⟩) 3 [l, j, x] (w1.alloc (.cells #[.int .i64 l, .int .i64 j, .int .i64 x] 2)).heap.size (w1.alloc (.cells #[.int .i64 l, .int .i64 j, .int .i64 x] 2)) (by omega) (by simp) (ints3 (by go_simp) (by go_simp) (by go_simp)) (Nat.le_refl _) HF.out (HTab.out.later be1')
    rw [HE.out] at HL
    refine HL.mono ?_
    rintro e w2 ⟨rfl, hb2⟩
    go_wp2_with fail
    go_ret
    exact ⟨rfl, be1'.trans (hb2.mono be1'.size)⟩
set_option maxHeartbeats 1600000 in
theorem fnExactDuctText_walk (s : ByteArray) (hs : s.size ≤ maxLen) (l : Int) (_ : -9223372036854775808 ≤ l ∧ l ≤ 9223372036854775807) (j : Int) (_ : -9223372036854775808 ≤ j ∧ j ≤ 9223372036854775807) (x : Int) (_ : -9223372036854775808 ≤ x ∧ x ≤ 9223372036854775807) (w : World) (hTab : Tab w) :
    Calls Tryd.prog 5 #[.agg #[.string s, .int .i64 l, .int .i64 j, .int .i64 x]] w fun e w' => e = .returned (.bool true) ∧ Below w.heap.size w w' := by
  have hF : Fits [l, j, x] := by
    intro z hz
    simp only [List.mem_cons, List.not_mem_nil, or_false] at hz
    rcases hz with rfl | rfl | rfl <;> omega
  have be0 : Below w.heap.size w (w.alloc (.cells #[.string s, .int .i64 l, .int .i64 j, .int .i64 x] 36)) := by go_grown
  have c0_0 : (w.alloc (.cells #[.string s, .int .i64 l, .int .i64 j, .int .i64 x] 36)).cell? ⟨w.heap.size, 0, none⟩ = some (.string s) := by go_simp
  have c1_0 : (w.alloc (.cells #[.string s, .int .i64 l, .int .i64 j, .int .i64 x] 36)).cell? ⟨w.heap.size, 1, none⟩ = some (.int .i64 l) := by go_simp
  have c2_0 : (w.alloc (.cells #[.string s, .int .i64 l, .int .i64 j, .int .i64 x] 36)).cell? ⟨w.heap.size, 2, none⟩ = some (.int .i64 j) := by go_simp
  have c3_0 : (w.alloc (.cells #[.string s, .int .i64 l, .int .i64 j, .int .i64 x] 36)).cell? ⟨w.heap.size, 3, none⟩ = some (.int .i64 x) := by go_simp
  have HF := Lib.hid hF
  have HTab := Lib.hid hTab
  have HD := Lib.hid (fun W => toDuct_any s l j x W)
  have hsm : s.size ≤ 9223372036854775807 := by unfold maxLen at hs; omega
  have HSM := Lib.hid hs
  clear hF hTab hs
  by_cases h : (s.size : Int) ≤ 1048576
  · go_enter Tryd.func5, Tryd.ntmps5
    go_wp2_with fail
    generalize (w.alloc (.cells #[.string s, .int .i64 l, .int .i64 j, .int .i64 x] 36)) = w0 at *
    refine (szDuct_yes s l j x 1048576 _ (by omega) h).mono ?_
    rintro e w1 ⟨rfl, hb1⟩
    have sz1 : w0.heap.size ≤ w1.heap.size := hb1.size
    have be1 := be0.trans (hb1.mono be0.size)
    have c0_1 := cell_later hb1 c0_0
    have c1_1 := cell_later hb1 c1_0
    have c2_1 := cell_later hb1 c2_0
    have c3_1 := cell_later hb1 c3_0
    clear c0_0 c1_0 c2_0 c3_0
    go_wp2_with fail
    refine (HD.out _).mono ?_
    rintro e w2 ⟨rfl, hb2⟩
    have sz2 : w1.heap.size ≤ w2.heap.size := hb2.size
    have be2 := be1.trans (hb2.mono be1.size)
    have c0_2 := cell_later hb2 c0_1
    have c1_2 := cell_later hb2 c1_1
    have c2_2 := cell_later hb2 c2_1
    have c3_2 := cell_later hb2 c3_1
    clear c0_1 c1_1 c2_1 c3_1
    go_wp2_with fail
    refine (DuctText_s s l j x _ HSM.out HF.out).mono ?_
    rintro e w3 ⟨rfl, hb3⟩
    have sz3 : w2.heap.size ≤ w3.heap.size := hb3.size
    have be3 := be2.trans (hb3.mono be2.size)
    have c0_3 := cell_later hb3 c0_2
    have c1_3 := cell_later hb3 c1_2
    have c2_3 := cell_later hb3 c2_2
    have c3_3 := cell_later hb3 c3_2
    clear c0_2 c1_2 c2_2 c3_2
    go_wp2_with fail
    refine (HD.out _).mono ?_
    rintro e w4 ⟨rfl, hb4⟩
    have sz4 : w3.heap.size ≤ w4.heap.size := hb4.size
    have be4 := be3.trans (hb4.mono be3.size)
    have c0_4 := cell_later hb4 c0_3
    have c1_4 := cell_later hb4 c1_3
    have c2_4 := cell_later hb4 c2_3
    have c3_4 := cell_later hb4 c3_3
    clear c0_3 c1_3 c2_3 c3_3
    go_wp2_with fail
    refine (DuctText_i s l j x _ HSM.out HF.out (HTab.out.later be4)).mono ?_
    rintro e w5 ⟨rfl, hb5⟩
    have sz5 : w4.heap.size ≤ w5.heap.size := hb5.size
    have be5 := be4.trans (hb5.mono be4.size)
    have c0_5 := cell_later hb5 c0_4
    have c1_5 := cell_later hb5 c1_4
    have c2_5 := cell_later hb5 c2_4
    have c3_5 := cell_later hb5 c3_4
    clear c0_4 c1_4 c2_4 c3_4
    go_wp2_with fail
    go_ret
    exact ⟨rfl, be5⟩
  · go_enter Tryd.func5, Tryd.ntmps5
    go_wp2_with fail
    generalize (w.alloc (.cells #[.string s, .int .i64 l, .int .i64 j, .int .i64 x] 36)) = w0 at *
    refine (szDuct_no s l j x 1048576 _ (by omega) (by omega) HSM.out (by omega)).mono ?_
    rintro e w1 ⟨rfl, hb1⟩
    have sz1 : w0.heap.size ≤ w1.heap.size := hb1.size
    have be1 := be0.trans (hb1.mono be0.size)
    have c0_1 := cell_later hb1 c0_0
    have c1_1 := cell_later hb1 c1_0
    have c2_1 := cell_later hb1 c2_0
    have c3_1 := cell_later hb1 c3_0
    clear c0_0 c1_0 c2_0 c3_0
    go_wp2_with fail
    go_ret
    exact ⟨rfl, be1⟩
end Go.Proofs.YtemidjejelmdlaaDoor
