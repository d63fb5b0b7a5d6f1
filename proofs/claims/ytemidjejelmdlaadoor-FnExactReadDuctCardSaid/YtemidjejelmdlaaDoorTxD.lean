/- A task that makes dust as text: by the program and by the reference; and the walk of the law. Conditions: the table of powers lies in memory; the facts on memory and on lengths that each theorem names. -/
import Derived.Test.YtemidjejelmdlaaDoorTxI
import Derived.Deep.RegionHeld3
namespace Go.Proofs.YtemidjejelmdlaaDoor
open Go.RowKit
open Pl
theorem ints4 {w : World} {g : Nat} {a f u d : Int} (h0 : w.cell? ⟨g, 0, none⟩ = some (.int .i64 a)) (h1 : w.cell? ⟨g, 1, none⟩ = some (.int .i64 f)) (h2 : w.cell? ⟨g, 2, none⟩ = some (.int .i64 u)) (h3 : w.cell? ⟨g, 3, none⟩ = some (.int .i64 d)) : Ints w.heap.size w (some ⟨g, 0, none⟩) [a, f, u, d] := by
  refine fun _ => ⟨_, rfl, World.block_lt_of_cell? _ _ h0, fun k hk => ?_⟩
  match k, hk with
  | 0, _ => exact h0
  | 1, _ => exact h1
  | 2, _ => exact h2
  | 3, _ => exact h3
theorem ints3 {w : World} {g : Nat} {a f u : Int} (h0 : w.cell? ⟨g, 0, none⟩ = some (.int .i64 a)) (h1 : w.cell? ⟨g, 1, none⟩ = some (.int .i64 f)) (h2 : w.cell? ⟨g, 2, none⟩ = some (.int .i64 u)) : Ints w.heap.size w (some ⟨g, 0, none⟩) [a, f, u] := by
  refine fun _ => ⟨_, rfl, World.block_lt_of_cell? _ _ h0, fun k hk => ?_⟩
  match k, hk with
  | 0, _ => exact h0
  | 1, _ => exact h1
  | 2, _ => exact h2
theorem ints2 {w : World} {g : Nat} {a f : Int} (h0 : w.cell? ⟨g, 0, none⟩ = some (.int .i64 a)) (h1 : w.cell? ⟨g, 1, none⟩ = some (.int .i64 f)) : Ints w.heap.size w (some ⟨g, 0, none⟩) [a, f] := by
  refine fun _ => ⟨_, rfl, World.block_lt_of_cell? _ _ h0, fun k hk => ?_⟩
  match k, hk with
  | 0, _ => exact h0
  | 1, _ => exact h1
theorem okT_of {xs : List Int} (hl : (xs.length : Int) ≤ 64) (h : ∀ x ∈ xs, -1000000000000 ≤ x ∧ x ≤ 1000000000000) : textT xs = listT xs := by
  unfold textT okT
  rw [decide_eq_true hl, allIn_iff.2 h]
  rfl
def dustT (a f u d : Int) : List UInt8 := if dustingB a f u d then listT [a, f, u, d] else []
theorem dust_fits {a f u d : Int} (h : dustingB a f u d = true) : ∀ x ∈ [a, f, u, d], -1000000000000 ≤ x ∧ x ≤ 1000000000000 := by
  unfold dustingB at h
  simp only [Bool.and_eq_true] at h
  obtain ⟨h1, h2, h3, h4⟩ := h
  have := inB_iff.1 h1; have := inB_iff.1 h2; have := inB_iff.1 h3; have := inB_iff.1 h4
  intro x hx
  simp only [List.mem_cons, List.not_mem_nil, or_false] at hx
  rcases hx with rfl | rfl | rfl | rfl <;> omega
set_option maxRecDepth 100000 in
set_option maxHeartbeats 1600000 in
theorem l14Text_any (b o : Nat) (a f u d : Int) (w : World) (hF : Fits [a, f, u, d]) (c0 : w.cell? ⟨b, o, none⟩ = some (.int .i64 a)) (c1 : w.cell? ⟨b, o + 1, none⟩ = some (.int .i64 f)) (c2 : w.cell? ⟨b, o + 2, none⟩ = some (.int .i64 u)) (c3 : w.cell? ⟨b, o + 3, none⟩ = some (.int .i64 d)) :
    Calls Tryd.prog 30 #[.pointer (some ⟨b, o, none⟩)] w fun e w' => e = .returned (.string ⟨(listT [a, f, u, d]).toArray⟩) ∧ Below w.heap.size w w' := by
  have HF := Lib.hid hF
  clear hF
  go_enter Tryd.func30, Tryd.ntmps30
  go_wp2_with fail
  go_region_held3 (fun w' => w'.cell? ⟨b, o, none⟩ = some (.int .i64 a) ∧ w'.cell? ⟨b, o + 1, none⟩ = some (.int .i64 f) ∧ w'.cell? ⟨b, o + 2, none⟩ = some (.int .i64 u) ∧ w'.cell? ⟨b, o + 3, none⟩ = some (.int .i64 d))
    (first
      | go_keep
      | exact ⟨Lib.cell?_alloc_some _ c0, Lib.cell?_alloc_some _ c1, Lib.cell?_alloc_some _ c2, Lib.cell?_alloc_some _ c3⟩
      | exact ⟨cell_later hb2 (Lib.cell?_alloc_some _ c0), cell_later hb2 (Lib.cell?_alloc_some _ c1), cell_later hb2 (Lib.cell?_alloc_some _ c2), cell_later hb2 (Lib.cell?_alloc_some _ c3)⟩)
    (first
      | (go_at_call 48; refine (l01List_any (some ⟨w.heap.size, 0, none⟩) 4 [a, f, u, d] _ _ (by simp) (ints4 ?_ ?_ ?_ ?_) (Nat.le_refl _) HF.out).mono ?_; (go_simp); (go_simp); (go_simp); (go_simp); rintro e w2 ⟨rfl, hb2⟩))
  go_wp2_with fail
  go_ret
  exact ⟨rfl, (Below.drew ((Below.refl w.heap.size w).alloc (Nat.le_refl _) _)).trans (hb2.mono (by simp))⟩
theorem DustingText_s (a f u d : Int) (w : World) (hF : Fits [a, f, u, d]) :
    Calls Tryd.prog 9 #[.agg #[.int .i64 a, .int .i64 f, .int .i64 u, .int .i64 d]] w fun e w' => e = .returned (.string ⟨(dustT a f u d).toArray⟩) ∧ Below w.heap.size w w' := by
  unfold dustT
  have be0 : Below w.heap.size w (w.alloc (.cells #[.int .i64 a, .int .i64 f, .int .i64 u, .int .i64 d] 25)) := by go_grown
  have c0_0 : ((w.alloc (.cells #[.int .i64 a, .int .i64 f, .int .i64 u, .int .i64 d] 25))).cell? ⟨w.heap.size, 0, none⟩ = some (.int .i64 a) := by go_simp
  have c1_0 : ((w.alloc (.cells #[.int .i64 a, .int .i64 f, .int .i64 u, .int .i64 d] 25))).cell? ⟨w.heap.size, 1, none⟩ = some (.int .i64 f) := by go_simp
  have c2_0 : ((w.alloc (.cells #[.int .i64 a, .int .i64 f, .int .i64 u, .int .i64 d] 25))).cell? ⟨w.heap.size, 2, none⟩ = some (.int .i64 u) := by go_simp
  have c3_0 : ((w.alloc (.cells #[.int .i64 a, .int .i64 f, .int .i64 u, .int .i64 d] 25))).cell? ⟨w.heap.size, 3, none⟩ = some (.int .i64 d) := by go_simp
  have HV := Lib.hid (fun W h0 h1 h2 h3 => (l14One_any w.heap.size 0 a f u d W h0 h1 h2 h3).mono (fun e w' (h : _ ∧ ∃ n, W.drewN n = w') => (⟨h.1, by obtain ⟨_, n, rfl⟩ := h; exact below_drewN (Below.refl _ _) n⟩ : _ ∧ Below W.heap.size W w')))
  have HT := Lib.hid (fun W h0 h1 h2 h3 => l14Text_any w.heap.size 0 a f u d W hF h0 h1 h2 h3)
  clear hF
  cases hd : dustingB a f u d
  · rw [hd] at HV
    clear hd
    go_enter Tryd.func9, Tryd.ntmps9
    go_wp2_with fail
    generalize (w.alloc (.cells #[.int .i64 a, .int .i64 f, .int .i64 u, .int .i64 d] 25)) = w0 at *
    refine (HV.out _ c0_0 c1_0 c2_0 c3_0).mono ?_
    rintro e w1 ⟨rfl, hb1⟩
    have sz1 : w0.heap.size ≤ w1.heap.size := hb1.size
    have be1 := be0.trans (hb1.mono be0.size)
    have c0_1 := cell_later hb1 c0_0
    have c1_1 := cell_later hb1 c1_0
    have c2_1 := cell_later hb1 c2_0
    have c3_1 := cell_later hb1 c3_0
    clear c0_0 c1_0 c2_0 c3_0
    go_wp2_with fail
    go_ret
    exact ⟨rfl, be1⟩
  · rw [hd] at HV
    clear hd
    go_enter Tryd.func9, Tryd.ntmps9
    go_wp2_with fail
    generalize (w.alloc (.cells #[.int .i64 a, .int .i64 f, .int .i64 u, .int .i64 d] 25)) = w0 at *
    refine (HV.out _ c0_0 c1_0 c2_0 c3_0).mono ?_
    rintro e w1 ⟨rfl, hb1⟩
    have sz1 : w0.heap.size ≤ w1.heap.size := hb1.size
    have be1 := be0.trans (hb1.mono be0.size)
    have c0_1 := cell_later hb1 c0_0
    have c1_1 := cell_later hb1 c1_0
    have c2_1 := cell_later hb1 c2_0
    have c3_1 := cell_later hb1 c3_0
    clear c0_0 c1_0 c2_0 c3_0
    go_wp2_with fail
    refine (HT.out _ c0_1 c1_1 c2_1 c3_1).mono ?_
    rintro e w2 ⟨rfl, hb2⟩
    have sz2 : w1.heap.size ≤ w2.heap.size := hb2.size
    have be2 := be1.trans (hb2.mono be1.size)
    have c0_2 := cell_later hb2 c0_1
    have c1_2 := cell_later hb2 c1_1
    have c2_2 := cell_later hb2 c2_1
    have c3_2 := cell_later hb2 c3_1
    clear c0_1 c1_1 c2_1 c3_1
    go_wp2_with fail
    go_ret
    exact ⟨rfl, be2⟩
theorem DustingText_i (a f u d : Int) (w : World) (hF : Fits [a, f, u, d]) (hTab : Tab w) :
    Calls Tryd.prog 11 #[.agg #[.int .i64 a, .int .i64 f, .int .i64 u, .int .i64 d]] w fun e w' => e = .returned (.string ⟨(dustT a f u d).toArray⟩) ∧ Below w.heap.size w w' := by
  unfold dustT
  have be0 : Below w.heap.size w (w.alloc (.cells #[.int .i64 a, .int .i64 f, .int .i64 u, .int .i64 d] 25)) := by go_grown
  have c0_0 : ((w.alloc (.cells #[.int .i64 a, .int .i64 f, .int .i64 u, .int .i64 d] 25))).cell? ⟨w.heap.size, 0, none⟩ = some (.int .i64 a) := by go_simp
  have c1_0 : ((w.alloc (.cells #[.int .i64 a, .int .i64 f, .int .i64 u, .int .i64 d] 25))).cell? ⟨w.heap.size, 1, none⟩ = some (.int .i64 f) := by go_simp
  have c2_0 : ((w.alloc (.cells #[.int .i64 a, .int .i64 f, .int .i64 u, .int .i64 d] 25))).cell? ⟨w.heap.size, 2, none⟩ = some (.int .i64 u) := by go_simp
  have c3_0 : ((w.alloc (.cells #[.int .i64 a, .int .i64 f, .int .i64 u, .int .i64 d] 25))).cell? ⟨w.heap.size, 3, none⟩ = some (.int .i64 d) := by go_simp
  have HV := Lib.hid (fun W => ValidDusting_i a f u d W)
  have HTab := Lib.hid hTab
  have HF := Lib.hid hF
  clear hF hTab
  cases hd : dustingB a f u d
  · rw [hd] at HV
    clear hd
    go_enter Tryd.func11, Tryd.ntmps11
    go_wp2_with fail
    generalize (w.alloc (.cells #[.int .i64 a, .int .i64 f, .int .i64 u, .int .i64 d] 25)) = w0 at *
    refine (HV.out _).mono ?_
    rintro e w1 ⟨rfl, hb1⟩
    have sz1 : w0.heap.size ≤ w1.heap.size := hb1.size
    have be1 := be0.trans (hb1.mono be0.size)
    have c0_1 := cell_later hb1 c0_0
    have c1_1 := cell_later hb1 c1_0
    have c2_1 := cell_later hb1 c2_0
    have c3_1 := cell_later hb1 c3_0
    clear c0_0 c1_0 c2_0 c3_0
    go_wp2_with fail
    go_ret
    exact ⟨rfl, be1⟩
  · rw [hd] at HV
    have HE := Lib.hid (okT_of (xs := [a, f, u, d]) (by simp) (dust_fits hd))
    clear hd
    go_enter Tryd.func11, Tryd.ntmps11
    go_wp2_with fail
    generalize (w.alloc (.cells #[.int .i64 a, .int .i64 f, .int .i64 u, .int .i64 d] 25)) = w0 at *
    refine (HV.out _).mono ?_
    rintro e w1 ⟨rfl, hb1⟩
    have sz1 : w0.heap.size ≤ w1.heap.size := hb1.size
    have be1 := be0.trans (hb1.mono be0.size)
    have c0_1 := cell_later hb1 c0_0
    have c1_1 := cell_later hb1 c1_0
    have c2_1 := cell_later hb1 c2_0
    have c3_1 := cell_later hb1 c3_0
    clear c0_0 c1_0 c2_0 c3_0
    go_wp2_with fail
    have be1' := be1.alloc be1.size (.cells #[.int .i64 a, .int .i64 f, .int .i64 u, .int .i64 d] 2)
    have HL := ListText_any (some ⟨w1.heap.size, 0, none⟩) 4 [a, f, u, d] (w1.alloc (.cells #[.int .i64 a, .int .i64 f, .int .i64 u, .int .i64 d] 2)).heap.size (w1.alloc (.cells #[.int .i64 a, .int .i64 f, .int .i64 u, .int .i64 d] 2)) (by simp) (ints4 (by go_simp) (by go_simp) (by go_simp) (by go_simp)) (Nat.le_refl _) HF.out (HTab.out.later be1')
    rw [HE.out] at HL
    refine HL.mono ?_
    rintro e w2 ⟨rfl, hb2⟩
    go_wp2_with fail
    go_ret
    exact ⟨rfl, be1'.trans (hb2.mono be1'.size)⟩
set_option maxHeartbeats 800000 in
theorem fnExactDustingText_walk (a : Int) (_ : -9223372036854775808 ≤ a ∧ a ≤ 9223372036854775807) (f : Int) (_ : -9223372036854775808 ≤ f ∧ f ≤ 9223372036854775807) (u : Int) (_ : -9223372036854775808 ≤ u ∧ u ≤ 9223372036854775807) (d : Int) (_ : -9223372036854775808 ≤ d ∧ d ≤ 9223372036854775807) (w : World) (hTab : Tab w) :
    Calls Tryd.prog 3 #[.agg #[.int .i64 a, .int .i64 f, .int .i64 u, .int .i64 d]] w fun e w' => e = .returned (.bool true) ∧ Below w.heap.size w w' := by
  have hF : Fits [a, f, u, d] := by
    intro x hx
    simp only [List.mem_cons, List.not_mem_nil, or_false] at hx
    rcases hx with rfl | rfl | rfl | rfl <;> omega
  have be0 : Below w.heap.size w (w.alloc (.cells #[.int .i64 a, .int .i64 f, .int .i64 u, .int .i64 d] 23)) := by go_grown
  have c0_0 : (w.alloc (.cells #[.int .i64 a, .int .i64 f, .int .i64 u, .int .i64 d] 23)).cell? ⟨w.heap.size, 0, none⟩ = some (.int .i64 a) := by go_simp
  have c1_0 : (w.alloc (.cells #[.int .i64 a, .int .i64 f, .int .i64 u, .int .i64 d] 23)).cell? ⟨w.heap.size, 1, none⟩ = some (.int .i64 f) := by go_simp
  have c2_0 : (w.alloc (.cells #[.int .i64 a, .int .i64 f, .int .i64 u, .int .i64 d] 23)).cell? ⟨w.heap.size, 2, none⟩ = some (.int .i64 u) := by go_simp
  have c3_0 : (w.alloc (.cells #[.int .i64 a, .int .i64 f, .int .i64 u, .int .i64 d] 23)).cell? ⟨w.heap.size, 3, none⟩ = some (.int .i64 d) := by go_simp
  have HF := Lib.hid hF
  have HTab := Lib.hid hTab
  have HD := Lib.hid (fun W => toDusting_any a f u d W)
  clear hF hTab
  go_enter Tryd.func3, Tryd.ntmps3
  go_wp2_with fail
  generalize w.alloc (.cells #[.int .i64 a, .int .i64 f, .int .i64 u, .int .i64 d] 23) = w0 at *
  refine (HD.out _).mono ?_
  rintro e w1 ⟨rfl, hb1⟩
  have sz1 : w0.heap.size ≤ w1.heap.size := hb1.size
  have be1 := be0.trans (hb1.mono be0.size)
  have c0_1 := cell_later hb1 c0_0
  have c1_1 := cell_later hb1 c1_0
  have c2_1 := cell_later hb1 c2_0
  have c3_1 := cell_later hb1 c3_0
  clear c0_0 c1_0 c2_0 c3_0
  go_wp2_with fail
  refine (DustingText_s a f u d _ HF.out).mono ?_
  rintro e w2 ⟨rfl, hb2⟩
  have sz2 : w1.heap.size ≤ w2.heap.size := hb2.size
  have be2 := be1.trans (hb2.mono be1.size)
  have c0_2 := cell_later hb2 c0_1
  have c1_2 := cell_later hb2 c1_1
  have c2_2 := cell_later hb2 c2_1
  have c3_2 := cell_later hb2 c3_1
  clear c0_1 c1_1 c2_1 c3_1
  go_wp2_with fail
  refine (HD.out _).mono ?_
  rintro e w3 ⟨rfl, hb3⟩
  have sz3 : w2.heap.size ≤ w3.heap.size := hb3.size
  have be3 := be2.trans (hb3.mono be2.size)
  have c0_3 := cell_later hb3 c0_2
  have c1_3 := cell_later hb3 c1_2
  have c2_3 := cell_later hb3 c2_2
  have c3_3 := cell_later hb3 c3_2
  clear c0_2 c1_2 c2_2 c3_2
  go_wp2_with fail
  refine (DustingText_i a f u d _ HF.out (HTab.out.later be3)).mono ?_
  rintro e w4 ⟨rfl, hb4⟩
  have sz4 : w3.heap.size ≤ w4.heap.size := hb4.size
  have be4 := be3.trans (hb4.mono be3.size)
  have c0_4 := cell_later hb4 c0_3
  have c1_4 := cell_later hb4 c1_3
  have c2_4 := cell_later hb4 c2_3
  have c3_4 := cell_later hb4 c3_3
  clear c0_3 c1_3 c2_3 c3_3
  go_wp2_with fail
  go_ret
  exact ⟨rfl, be4⟩
end Go.Proofs.YtemidjejelmdlaaDoor
