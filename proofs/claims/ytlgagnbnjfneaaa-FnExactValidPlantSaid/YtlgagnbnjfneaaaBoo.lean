/- Boosters: what both sides ask of a mine, of drops, pushes and regulators; the gains. Conditions: the facts on memory and on lengths that each theorem names. -/
import Derived.Test.YtlgagnbnjfneaaaDrop
import Derived.Test.YtlgagnbnjfneaaaFit
import Derived.Test.YtlgagnbnjfneaaaBools
import Derived.Test.YtlgagnbnjfneaaaClone
import Derived.Test.YtlgagnbnjfneaaaQuiet
import Derived.RegionTactic
import Derived.BigRegion
import Derived.Outline
namespace Go.Proofs.Ytlgagnbnjfneaaa
open Go.RowKit
open Pl
theorem froz_later {w wx : World} {a : Addr} {v : Value} (hb : Below w.heap.size w wx) (h : w.cell? a = some v) (hf : w.frozen? a = false) : wx.frozen? a = false := (hb.frozen (World.block_lt_of_cell? _ _ h)).trans hf
def gapB (n : Nat) (ds ps : List Int) (rs : List Bool) : Bool := (decide ((ds.length : Int) = n) && allIn ds (-1000000) 1000000) && ((decide ((ps.length : Int) = n) && allIn ps (-20000) 20000) && decide ((rs.length : Int) = n))
noncomputable def codeF (J : Int) (xs : List Aw) (ds ps : List Int) (rs : List Bool) : Int := if mineB J xs then (if gapB xs.length ds ps rs then 0 else 2) else 1
theorem codeF_one {J : Int} {xs : List Aw} {ds ps : List Int} {rs : List Bool} (h : mineB J xs = false) : codeF J xs ds ps rs = 1 := by unfold codeF; rw [h]; rfl
theorem codeF_two {J : Int} {xs : List Aw} {ds ps : List Int} {rs : List Bool} (h : mineB J xs = true) (h' : gapB xs.length ds ps rs = false) : codeF J xs ds ps rs = 2 := by unfold codeF; rw [h, h']; rfl
theorem codeF_yes {J : Int} {xs : List Aw} {ds ps : List Int} {rs : List Bool} (h : mineB J xs = true) (h' : gapB xs.length ds ps rs = true) : codeF J xs ds ps rs = 0 := by unfold codeF; rw [h, h']; rfl
theorem codeF_2 {J : Int} {xs : List Aw} {ds ps : List Int} {rs : List Bool} (h : mineB J xs = true) (h' : codeF J xs ds ps rs ≠ 0) : codeF J xs ds ps rs = 2 := by
  cases hg : gapB xs.length ds ps rs
  · exact codeF_two h hg
  · exact absurd (codeF_yes h hg) h'
theorem codeF_or (J : Int) (xs : List Aw) (ds ps : List Int) (rs : List Bool) : (mineB J xs = true ∧ gapB xs.length ds ps rs = true ∧ codeF J xs ds ps rs = 0) ∨ codeF J xs ds ps rs = 1 ∨ codeF J xs ds ps rs = 2 := by
  cases h : mineB J xs
  · exact .inr (.inl (codeF_one h))
  · cases h' : gapB xs.length ds ps rs
    · exact .inr (.inr (codeF_two h h'))
    · exact .inl ⟨rfl, rfl, codeF_yes h h'⟩
theorem froz_all {w wx : World} {b o : Nat} {v : Value} (hb : Below w.heap.size w wx) (h : w.cell? ⟨b, o, none⟩ = some v) (hf : ∀ i, w.frozen? ⟨b, i, none⟩ = false) : ∀ i, wx.frozen? ⟨b, i, none⟩ = false := fun i => (hb.frozen (p := ⟨b, i, none⟩) (show b < w.heap.size from World.block_lt_of_cell? _ _ h)).trans (hf i)
theorem gapB_in {n : Nat} {ds ps : List Int} {rs : List Bool} (h : gapB n ds ps rs = true) : ds.length = n ∧ ps.length = n ∧ rs.length = n ∧ (∀ k, k < n → -1000000 ≤ ds.getD k 0 ∧ ds.getD k 0 ≤ 1000000) ∧ ∀ k, k < n → -20000 ≤ ps.getD k 0 ∧ ps.getD k 0 ≤ 20000 := by
  simp only [gapB, Bool.and_eq_true, decide_eq_true_eq] at h
  obtain ⟨⟨h1, h2⟩, ⟨h3, h4⟩, h5⟩ := h
  refine ⟨by omega, by omega, by omega, fun k hk => ?_, fun k hk => ?_⟩
  · rw [getD_pt (by omega)]; exact allIn_iff.1 h2 _ (List.getElem_mem (by omega))
  · rw [getD_pt (by omega)]; exact allIn_iff.1 h4 _ (List.getElem_mem (by omega))
/-! ### Gains -/
def gainN (ps ds : List Int) (j : Nat) : List Int := (List.range ps.length).map fun k => if k < j then ps.getD k 0 - ds.getD k 0 else ps.getD k 0
theorem gainN_length (ps ds : List Int) (j : Nat) : (gainN ps ds j).length = ps.length := by simp [gainN]
theorem gainN_get (ps ds : List Int) (j i : Nat) (h : i < (gainN ps ds j).length) : (gainN ps ds j)[i] = if i < j then ps.getD i 0 - ds.getD i 0 else ps.getD i 0 := by simp [gainN]
theorem gainN_start (ps ds : List Int) : gainN ps ds 0 = ps := by
  apply List.ext_getElem
  · exact gainN_length _ _ _
  · intro i h1 h2
    rw [gainN_get, if_neg (by omega), getD_pt h2]
theorem gainN_set (ps ds : List Int) (j : Nat) : (gainN ps ds j).set j (ps.getD j 0 - ds.getD j 0) = gainN ps ds (j + 1) := by
  apply List.ext_getElem
  · simp [gainN_length]
  · intro i h1 h2
    rw [List.getElem_set]
    split
    · rename_i e; subst e; rw [gainN_get, if_pos (by omega)]
    · rw [gainN_get, gainN_get]
      by_cases h : i < j
      · rw [if_pos h, if_pos (by omega)]
      · rw [if_neg h, if_neg (by omega)]
def gainL (ps ds : List Int) : List Int := gainN ps ds ps.length
theorem gainL_length (ps ds : List Int) : (gainL ps ds).length = ps.length := gainN_length _ _ _
theorem gainL_at (ps ds : List Int) {k : Nat} (h : k < ps.length) : (gainL ps ds).getD k 0 = ps.getD k 0 - ds.getD k 0 := by
  unfold gainL
  rw [getD_pt (by rw [gainN_length]; exact h), gainN_get, if_pos h]
theorem gainL_gd {ps ds : List Int} {n : Nat} (h1 : ps.length = n) (h3 : ∀ k, k < n → -1000000 ≤ ds.getD k 0 ∧ ds.getD k 0 ≤ 1000000) (h4 : ∀ k, k < n → -20000 ≤ ps.getD k 0 ∧ ps.getD k 0 ≤ 20000) : ∀ k, k < n → -1020000 ≤ (gainL ps ds).getD k 0 ∧ (gainL ps ds).getD k 0 ≤ 1020000 := by
  intro k hk
  rw [gainL_at ps ds (by omega)]
  have := h3 k hk
  have := h4 k hk
  omega
/-- The ends of a valid mine's airways. -/
theorem mineB_ends {J : Int} {xs : List Aw} (h : mineB J xs = true) : Ends xs J.toNat ∧ ∀ k, k < xs.length → (xs.getD k aNone).f = (aF xs k : Int) ∧ (xs.getD k aNone).t = (aT xs k : Int) := by
  obtain ⟨_, _, h3⟩ := mineB_bd h
  have h4 : ∀ k, k < xs.length → (0 ≤ (xs.getD k aNone).f ∧ (xs.getD k aNone).f ≤ J - 1) ∧ (0 ≤ (xs.getD k aNone).t ∧ (xs.getD k aNone).t ≤ J - 1) := fun k hk => by
    have := (h3 k hk).2
    unfold endsB at this
    simp only [Bool.and_eq_true] at this
    exact ⟨inB_iff.1 this.1, inB_iff.1 this.2⟩
  refine ⟨fun k hk => ?_, fun k hk => ?_⟩
  · have := h4 k hk; unfold aF aT; omega
  · have := h4 k hk; unfold aF aT; omega
theorem set4 {w : World} {b : Nat} {x0 x1 x2 x3 : Value} (v0 v1 v2 v3 : Value) (c0 : w.cell? ⟨b, 0, none⟩ = some x0) (c1 : w.cell? ⟨b, 1, none⟩ = some x1) (c2 : w.cell? ⟨b, 2, none⟩ = some x2) (c3 : w.cell? ⟨b, 3, none⟩ = some x3) :
    ((((w.setCell ⟨b, 0, none⟩ v0).setCell ⟨b, 1, none⟩ v1).setCell ⟨b, 2, none⟩ v2).setCell ⟨b, 3, none⟩ v3).cell? ⟨b, 0, none⟩ = some v0 ∧ ((((w.setCell ⟨b, 0, none⟩ v0).setCell ⟨b, 1, none⟩ v1).setCell ⟨b, 2, none⟩ v2).setCell ⟨b, 3, none⟩ v3).cell? ⟨b, 1, none⟩ = some v1 ∧
    ((((w.setCell ⟨b, 0, none⟩ v0).setCell ⟨b, 1, none⟩ v1).setCell ⟨b, 2, none⟩ v2).setCell ⟨b, 3, none⟩ v3).cell? ⟨b, 2, none⟩ = some v2 ∧ ((((w.setCell ⟨b, 0, none⟩ v0).setCell ⟨b, 1, none⟩ v1).setCell ⟨b, 2, none⟩ v2).setCell ⟨b, 3, none⟩ v3).cell? ⟨b, 3, none⟩ = some v3 :=
  ⟨setc_ne (setc_ne (setc_ne (setc_eq c0) (by decide)) (by decide)) (by decide), setc_ne (setc_ne (setc_eq (setc_ne c1 (by decide))) (by decide)) (by decide), setc_ne (setc_eq (setc_ne (setc_ne c2 (by decide)) (by decide))) (by decide), setc_eq (setc_ne (setc_ne (setc_ne c3 (by decide)) (by decide)) (by decide))⟩
set_option maxRecDepth 100000 in
set_option maxHeartbeats 1600000 in
theorem boostersOf_no (J : Int) (A : Option Addr) (cp : Nat) (xs : List Aw) (A1 : Option Addr) (c1 : Nat) (ds : List Int) (A2 : Option Addr) (c2 : Nat) (ps : List Int) (A3 : Option Addr) (c3 : Nat) (rs : List Bool) (w : World) (hx : (xs.length : Int) ≤ 1048576) (hF : FitsA xs) (hI : Recs encA 7 w.heap.size w A xs)
    (n1 : (ds.length : Int) ≤ 1048576) (hI1 : Ints w.heap.size w A1 ds) (hT1 : Fits ds) (n2 : (ps.length : Int) ≤ 1048576) (hI2 : Ints w.heap.size w A2 ps) (hT2 : Fits ps) (_ : (rs.length : Int) ≤ 1048576) (hc : codeF J xs ds ps rs ≠ 0) :
    Calls Try.prog 58 #[.agg #[.int .i64 J, .slice A xs.length cp], .slice A1 ds.length c1, .slice A2 ps.length c2, .slice A3 rs.length c3] w fun e w' => e = .returned (.tuple #[.agg #[.int .i64 0, .slice none 0 0, .slice none 0 0, .slice none 0 0], .int .i64 (codeF J xs ds ps rs)]) ∧ Below w.heap.size w w' := by
  obtain ⟨R, hR⟩ : ∃ R, R = codeF J xs ds ps rs := ⟨_, rfl⟩
  rw [← hR]
  have HR := Lib.hid hR
  have HC := Lib.hid hc
  clear hR hc
  have HV := Lib.hid (fun (W : World) (hb : Below w.heap.size w W) => ValidMine_i J A cp xs w.heap.size W (by omega) hF (hI.below hb) hb.size)
  have H1 := Lib.hid (fun (W : World) (hb : Below w.heap.size w W) => hasList_any J A cp xs A1 c1 ds (-1000000) 1000000 w.heap.size W (by omega) (by omega) (hI1.below hb) hb.size hT1)
  have H2 := Lib.hid (fun (W : World) (hb : Below w.heap.size w W) => hasList_any J A cp xs A2 c2 ps (-20000) 20000 w.heap.size W (by omega) (by omega) (hI2.below hb) hb.size hT2)
  clear hI hI1 hI2 hT1 hT2 hF
  have be0 : Below w.heap.size w ((w.alloc (.cells #[.int .i64 J, .slice A xs.length cp] 31)).alloc (.cells #[.int .i64 0, .slice none 0 0, .slice none 0 0, .slice none 0 0] 85)) := by go_grown
  have m0_0 : ((w.alloc (.cells #[.int .i64 J, .slice A xs.length cp] 31)).alloc (.cells #[.int .i64 0, .slice none 0 0, .slice none 0 0, .slice none 0 0] 85)).cell? ⟨w.heap.size, 0, none⟩ = some (.int .i64 J) := by go_simp
  have m1_0 : ((w.alloc (.cells #[.int .i64 J, .slice A xs.length cp] 31)).alloc (.cells #[.int .i64 0, .slice none 0 0, .slice none 0 0, .slice none 0 0] 85)).cell? ⟨w.heap.size, 1, none⟩ = some (.slice A xs.length cp) := by go_simp
  have z0_0 : ((w.alloc (.cells #[.int .i64 J, .slice A xs.length cp] 31)).alloc (.cells #[.int .i64 0, .slice none 0 0, .slice none 0 0, .slice none 0 0] 85)).cell? ⟨w.heap.size + 1, 0, none⟩ = some (.int .i64 0) := by go_simp
  have z1_0 : ((w.alloc (.cells #[.int .i64 J, .slice A xs.length cp] 31)).alloc (.cells #[.int .i64 0, .slice none 0 0, .slice none 0 0, .slice none 0 0] 85)).cell? ⟨w.heap.size + 1, 1, none⟩ = some (.slice none 0 0) := by go_simp
  have z2_0 : ((w.alloc (.cells #[.int .i64 J, .slice A xs.length cp] 31)).alloc (.cells #[.int .i64 0, .slice none 0 0, .slice none 0 0, .slice none 0 0] 85)).cell? ⟨w.heap.size + 1, 2, none⟩ = some (.slice none 0 0) := by go_simp
  have z3_0 : ((w.alloc (.cells #[.int .i64 J, .slice A xs.length cp] 31)).alloc (.cells #[.int .i64 0, .slice none 0 0, .slice none 0 0, .slice none 0 0] 85)).cell? ⟨w.heap.size + 1, 3, none⟩ = some (.slice none 0 0) := by go_simp
  have fz : ∀ i, ((w.alloc (.cells #[.int .i64 J, .slice A xs.length cp] 31)).alloc (.cells #[.int .i64 0, .slice none 0 0, .slice none 0 0, .slice none 0 0] 85)).frozen? ⟨w.heap.size + 1, i, none⟩ = false := fun i => by go_simp
  have HZ := Lib.hid fz
  clear fz
  cases hm : mineB J xs
  · have HG := Lib.hid (codeF_one (ds := ds) (ps := ps) (rs := rs) hm)
    rw [hm] at HV
    clear hm
    go_enter Try.func58, Try.ntmps58
    go_wp2_with fail
    generalize (w.alloc (.cells #[.int .i64 J, .slice A xs.length cp] 31)).alloc (.cells #[.int .i64 0, .slice none 0 0, .slice none 0 0, .slice none 0 0] 85) = w0 at *
    refine (HV.out _ be0).mono ?_
    rintro e w1 ⟨rfl, hb1⟩
    have sz1 : w0.heap.size ≤ w1.heap.size := hb1.size
    have be1 := be0.trans (hb1.mono be0.size)
    have m0_1 := cell_later hb1 m0_0
    have m1_1 := cell_later hb1 m1_0
    have z0_1 := cell_later hb1 z0_0
    have z1_1 := cell_later hb1 z1_0
    have z2_1 := cell_later hb1 z2_0
    have z3_1 := cell_later hb1 z3_0
    have k1 := froz_all hb1 z0_0 HZ.out
    clear m0_0 m1_0 z0_0 z1_0 z2_0 z3_0
    go_wp2_with fail
    obtain ⟨r0, r1, r2, r3⟩ := set4 (.int .i64 0) (.slice none 0 0) (.slice none 0 0) (.slice none 0 0) z0_1 z1_1 z2_1 z3_1
    exact bodyPost_ret (v := .tuple #[.agg #[.int .i64 0, .slice none 0 0, .slice none 0 0, .slice none 0 0], .int .i64 1]) (by simp [results, Try.results58, go_sem, r0, r1, r2, r3]) rfl ⟨by rw [HR.out, HG.out], (((be1.setCell (by simp) _).setCell (by simp) _).setCell (by simp) _).setCell (by simp) _⟩
  rw [hm] at HV
  cases h1 : (decide ((ds.length : Int) = xs.length) && allIn ds (-1000000) 1000000)
  · have HG := Lib.hid (codeF_two (ds := ds) (ps := ps) (rs := rs) hm (by unfold gapB; rw [h1]; rfl))
    rw [h1] at H1
    clear hm h1
    go_enter Try.func58, Try.ntmps58
    go_wp2_with fail
    generalize (w.alloc (.cells #[.int .i64 J, .slice A xs.length cp] 31)).alloc (.cells #[.int .i64 0, .slice none 0 0, .slice none 0 0, .slice none 0 0] 85) = w0 at *
    refine (HV.out _ be0).mono ?_
    rintro e w1 ⟨rfl, hb1⟩
    have sz1 : w0.heap.size ≤ w1.heap.size := hb1.size
    have be1 := be0.trans (hb1.mono be0.size)
    have m0_1 := cell_later hb1 m0_0
    have m1_1 := cell_later hb1 m1_0
    have z0_1 := cell_later hb1 z0_0
    have z1_1 := cell_later hb1 z1_0
    have z2_1 := cell_later hb1 z2_0
    have z3_1 := cell_later hb1 z3_0
    have k1 := froz_all hb1 z0_0 HZ.out
    clear m0_0 m1_0 z0_0 z1_0 z2_0 z3_0
    go_wp2_with fail
    refine (H1.out _ be1).mono ?_
    rintro e w2 ⟨rfl, hb2⟩
    have sz2 : w1.heap.size ≤ w2.heap.size := hb2.size
    have be2 := be1.trans (hb2.mono be1.size)
    have m0_2 := cell_later hb2 m0_1
    have m1_2 := cell_later hb2 m1_1
    have z0_2 := cell_later hb2 z0_1
    have z1_2 := cell_later hb2 z1_1
    have z2_2 := cell_later hb2 z2_1
    have z3_2 := cell_later hb2 z3_1
    have k2 := froz_all hb2 z0_1 k1
    clear k1
    clear m0_1 m1_1 z0_1 z1_1 z2_1 z3_1
    go_wp2_with fail
    obtain ⟨r0, r1, r2, r3⟩ := set4 (.int .i64 0) (.slice none 0 0) (.slice none 0 0) (.slice none 0 0) z0_2 z1_2 z2_2 z3_2
    exact bodyPost_ret (v := .tuple #[.agg #[.int .i64 0, .slice none 0 0, .slice none 0 0, .slice none 0 0], .int .i64 2]) (by simp [results, Try.results58, go_sem, r0, r1, r2, r3]) rfl ⟨by rw [HR.out, HG.out], (((be2.setCell (by simp) _).setCell (by simp) _).setCell (by simp) _).setCell (by simp) _⟩
  rw [h1] at H1
  have H3 : ((decide ((ps.length : Int) = xs.length) && allIn ps (-20000) 20000) = false) ∨ ((decide ((ps.length : Int) = xs.length) && allIn ps (-20000) 20000) = true ∧ ¬ (rs.length : Int) = xs.length) := by
    cases h2 : (decide ((ps.length : Int) = xs.length) && allIn ps (-20000) 20000)
    · exact .inl rfl
    · refine .inr ⟨rfl, fun h3 => HC.out (codeF_yes hm ?_)⟩
      unfold gapB
      rw [h1, h2, decide_eq_true h3]
      rfl
  have HG := Lib.hid (codeF_2 hm HC.out)
  clear hm h1
  rcases H3 with h2 | ⟨h2, h3⟩
  · rw [h2] at H2
    clear h2
    go_enter Try.func58, Try.ntmps58
    go_wp2_with fail
    generalize (w.alloc (.cells #[.int .i64 J, .slice A xs.length cp] 31)).alloc (.cells #[.int .i64 0, .slice none 0 0, .slice none 0 0, .slice none 0 0] 85) = w0 at *
    refine (HV.out _ be0).mono ?_
    rintro e w1 ⟨rfl, hb1⟩
    have sz1 : w0.heap.size ≤ w1.heap.size := hb1.size
    have be1 := be0.trans (hb1.mono be0.size)
    have m0_1 := cell_later hb1 m0_0
    have m1_1 := cell_later hb1 m1_0
    have z0_1 := cell_later hb1 z0_0
    have z1_1 := cell_later hb1 z1_0
    have z2_1 := cell_later hb1 z2_0
    have z3_1 := cell_later hb1 z3_0
    have k1 := froz_all hb1 z0_0 HZ.out
    clear m0_0 m1_0 z0_0 z1_0 z2_0 z3_0
    go_wp2_with fail
    refine (H1.out _ be1).mono ?_
    rintro e w2 ⟨rfl, hb2⟩
    have sz2 : w1.heap.size ≤ w2.heap.size := hb2.size
    have be2 := be1.trans (hb2.mono be1.size)
    have m0_2 := cell_later hb2 m0_1
    have m1_2 := cell_later hb2 m1_1
    have z0_2 := cell_later hb2 z0_1
    have z1_2 := cell_later hb2 z1_1
    have z2_2 := cell_later hb2 z2_1
    have z3_2 := cell_later hb2 z3_1
    have k2 := froz_all hb2 z0_1 k1
    clear k1
    clear m0_1 m1_1 z0_1 z1_1 z2_1 z3_1
    go_wp2_with fail
    refine (H2.out _ be2).mono ?_
    rintro e w3 ⟨rfl, hb3⟩
    have sz3 : w2.heap.size ≤ w3.heap.size := hb3.size
    have be3 := be2.trans (hb3.mono be2.size)
    have m0_3 := cell_later hb3 m0_2
    have m1_3 := cell_later hb3 m1_2
    have z0_3 := cell_later hb3 z0_2
    have z1_3 := cell_later hb3 z1_2
    have z2_3 := cell_later hb3 z2_2
    have z3_3 := cell_later hb3 z3_2
    have k3 := froz_all hb3 z0_2 k2
    clear k2
    clear m0_2 m1_2 z0_2 z1_2 z2_2 z3_2
    go_wp2_with fail
    obtain ⟨r0, r1, r2, r3⟩ := set4 (.int .i64 0) (.slice none 0 0) (.slice none 0 0) (.slice none 0 0) z0_3 z1_3 z2_3 z3_3
    exact bodyPost_ret (v := .tuple #[.agg #[.int .i64 0, .slice none 0 0, .slice none 0 0, .slice none 0 0], .int .i64 2]) (by simp [results, Try.results58, go_sem, r0, r1, r2, r3]) rfl ⟨by rw [HR.out, HG.out], (((be3.setCell (by simp) _).setCell (by simp) _).setCell (by simp) _).setCell (by simp) _⟩
  · rw [h2] at H2
    clear h2
    go_enter Try.func58, Try.ntmps58
    go_wp2_with fail
    generalize (w.alloc (.cells #[.int .i64 J, .slice A xs.length cp] 31)).alloc (.cells #[.int .i64 0, .slice none 0 0, .slice none 0 0, .slice none 0 0] 85) = w0 at *
    refine (HV.out _ be0).mono ?_
    rintro e w1 ⟨rfl, hb1⟩
    have sz1 : w0.heap.size ≤ w1.heap.size := hb1.size
    have be1 := be0.trans (hb1.mono be0.size)
    have m0_1 := cell_later hb1 m0_0
    have m1_1 := cell_later hb1 m1_0
    have z0_1 := cell_later hb1 z0_0
    have z1_1 := cell_later hb1 z1_0
    have z2_1 := cell_later hb1 z2_0
    have z3_1 := cell_later hb1 z3_0
    have k1 := froz_all hb1 z0_0 HZ.out
    clear m0_0 m1_0 z0_0 z1_0 z2_0 z3_0
    go_wp2_with fail
    refine (H1.out _ be1).mono ?_
    rintro e w2 ⟨rfl, hb2⟩
    have sz2 : w1.heap.size ≤ w2.heap.size := hb2.size
    have be2 := be1.trans (hb2.mono be1.size)
    have m0_2 := cell_later hb2 m0_1
    have m1_2 := cell_later hb2 m1_1
    have z0_2 := cell_later hb2 z0_1
    have z1_2 := cell_later hb2 z1_1
    have z2_2 := cell_later hb2 z2_1
    have z3_2 := cell_later hb2 z3_1
    have k2 := froz_all hb2 z0_1 k1
    clear k1
    clear m0_1 m1_1 z0_1 z1_1 z2_1 z3_1
    go_wp2_with fail
    refine (H2.out _ be2).mono ?_
    rintro e w3 ⟨rfl, hb3⟩
    have sz3 : w2.heap.size ≤ w3.heap.size := hb3.size
    have be3 := be2.trans (hb3.mono be2.size)
    have m0_3 := cell_later hb3 m0_2
    have m1_3 := cell_later hb3 m1_2
    have z0_3 := cell_later hb3 z0_2
    have z1_3 := cell_later hb3 z1_2
    have z2_3 := cell_later hb3 z2_2
    have z3_3 := cell_later hb3 z3_2
    have k3 := froz_all hb3 z0_2 k2
    clear k2
    clear m0_2 m1_2 z0_2 z1_2 z2_2 z3_2
    go_wp2_with fail
    obtain ⟨r0, r1, r2, r3⟩ := set4 (.int .i64 0) (.slice none 0 0) (.slice none 0 0) (.slice none 0 0) z0_3 z1_3 z2_3 z3_3
    exact bodyPost_ret (v := .tuple #[.agg #[.int .i64 0, .slice none 0 0, .slice none 0 0, .slice none 0 0], .int .i64 2]) (by simp [results, Try.results58, go_sem, r0, r1, r2, r3]) rfl ⟨by rw [HR.out, HG.out], (((be3.setCell (by simp) _).setCell (by simp) _).setCell (by simp) _).setCell (by simp) _⟩
set_option maxRecDepth 100000 in
set_option maxHeartbeats 1600000 in
theorem boostersOf_yes (J : Int) (A : Option Addr) (cp : Nat) (xs : List Aw) (A1 : Option Addr) (c1 : Nat) (ds : List Int) (A2 : Option Addr) (c2 : Nat) (ps : List Int) (A3 : Option Addr) (c3 : Nat) (rs : List Bool) (w : World) (hx : (xs.length : Int) ≤ 1048576) (hF : FitsA xs) (hI : Recs encA 7 w.heap.size w A xs)
    (n1 : (ds.length : Int) ≤ 1048576) (hI1 : Ints w.heap.size w A1 ds) (hT1 : Fits ds) (n2 : (ps.length : Int) ≤ 1048576) (hI2 : Ints w.heap.size w A2 ps) (hT2 : Fits ps) (_ : (rs.length : Int) ≤ 1048576) (hm : mineB J xs = true) (hg : gapB xs.length ds ps rs = true) :
    Calls Try.prog 58 #[.agg #[.int .i64 J, .slice A xs.length cp], .slice A1 ds.length c1, .slice A2 ps.length c2, .slice A3 rs.length c3] w fun e w' => ∃ v, e = .returned (.tuple #[.agg #[.int .i64 J, .slice A xs.length cp, v, .slice A3 rs.length c3], .int .i64 0]) ∧ Own w.heap.size w' v (gainL ps ds) ∧ Below w.heap.size w w' := by
  have HV := Lib.hid (fun (W : World) (hb : Below w.heap.size w W) => ValidMine_i J A cp xs w.heap.size W (by omega) hF (hI.below hb) hb.size)
  have H1 := Lib.hid (fun (W : World) (hb : Below w.heap.size w W) => hasList_any J A cp xs A1 c1 ds (-1000000) 1000000 w.heap.size W (by omega) (by omega) (hI1.below hb) hb.size hT1)
  have H2 := Lib.hid (fun (W : World) (hb : Below w.heap.size w W) => hasList_any J A cp xs A2 c2 ps (-20000) 20000 w.heap.size W (by omega) (by omega) (hI2.below hb) hb.size hT2)
  have HK := Lib.hid (fun (W : World) (hb : Below w.heap.size w W) => Clone_any A2 c2 ps w.heap.size W (by omega) (hI2.below hb))
  have J1 := Lib.hid hI1
  obtain ⟨l1, l2, l3, b1, b2⟩ := gapB_in hg
  have HB1 := Lib.hid b1
  have HB2 := Lib.hid b2
  have HG := hg
  simp only [gapB, Bool.and_eq_true] at HG
  obtain ⟨⟨h1a, h1b⟩, ⟨h2a, h2b⟩, h3⟩ := HG
  rw [hm] at HV
  rw [h1a, h1b] at H1
  rw [h2a, h2b] at H2
  have h3 := of_decide_eq_true h3
  have E12 := Lib.hid (show ps.length = ds.length by omega)
  have EX := Lib.hid (show xs.length = ds.length by omega)
  clear hI hI1 hI2 hT1 hT2 hF hm hg b1 b2 h1a h1b h2a h2b l1 l2 l3
  have be0 : Below w.heap.size w ((w.alloc (.cells #[.int .i64 J, .slice A xs.length cp] 31)).alloc (.cells #[.int .i64 0, .slice none 0 0, .slice none 0 0, .slice none 0 0] 85)) := by go_grown
  have m0_0 : ((w.alloc (.cells #[.int .i64 J, .slice A xs.length cp] 31)).alloc (.cells #[.int .i64 0, .slice none 0 0, .slice none 0 0, .slice none 0 0] 85)).cell? ⟨w.heap.size, 0, none⟩ = some (.int .i64 J) := by go_simp
  have m1_0 : ((w.alloc (.cells #[.int .i64 J, .slice A xs.length cp] 31)).alloc (.cells #[.int .i64 0, .slice none 0 0, .slice none 0 0, .slice none 0 0] 85)).cell? ⟨w.heap.size, 1, none⟩ = some (.slice A xs.length cp) := by go_simp
  have z0_0 : ((w.alloc (.cells #[.int .i64 J, .slice A xs.length cp] 31)).alloc (.cells #[.int .i64 0, .slice none 0 0, .slice none 0 0, .slice none 0 0] 85)).cell? ⟨w.heap.size + 1, 0, none⟩ = some (.int .i64 0) := by go_simp
  have z1_0 : ((w.alloc (.cells #[.int .i64 J, .slice A xs.length cp] 31)).alloc (.cells #[.int .i64 0, .slice none 0 0, .slice none 0 0, .slice none 0 0] 85)).cell? ⟨w.heap.size + 1, 1, none⟩ = some (.slice none 0 0) := by go_simp
  have z2_0 : ((w.alloc (.cells #[.int .i64 J, .slice A xs.length cp] 31)).alloc (.cells #[.int .i64 0, .slice none 0 0, .slice none 0 0, .slice none 0 0] 85)).cell? ⟨w.heap.size + 1, 2, none⟩ = some (.slice none 0 0) := by go_simp
  have z3_0 : ((w.alloc (.cells #[.int .i64 J, .slice A xs.length cp] 31)).alloc (.cells #[.int .i64 0, .slice none 0 0, .slice none 0 0, .slice none 0 0] 85)).cell? ⟨w.heap.size + 1, 3, none⟩ = some (.slice none 0 0) := by go_simp
  have fz : ∀ i, ((w.alloc (.cells #[.int .i64 J, .slice A xs.length cp] 31)).alloc (.cells #[.int .i64 0, .slice none 0 0, .slice none 0 0, .slice none 0 0] 85)).frozen? ⟨w.heap.size + 1, i, none⟩ = false := fun i => by go_simp
  have HZ := Lib.hid fz
  clear fz
  go_enter Try.func58, Try.ntmps58
  go_wp2_with fail
  generalize (w.alloc (.cells #[.int .i64 J, .slice A xs.length cp] 31)).alloc (.cells #[.int .i64 0, .slice none 0 0, .slice none 0 0, .slice none 0 0] 85) = w0 at *
  have zz0 : w.heap.size + 1 < w0.heap.size := World.block_lt_of_cell? _ _ z0_0
  refine (HV.out _ be0).mono ?_
  rintro e w1 ⟨rfl, hb1⟩
  have sz1 : w0.heap.size ≤ w1.heap.size := hb1.size
  have be1 := be0.trans (hb1.mono be0.size)
  have m0_1 := cell_later hb1 m0_0
  have m1_1 := cell_later hb1 m1_0
  have z0_1 := cell_later hb1 z0_0
  have z1_1 := cell_later hb1 z1_0
  have z2_1 := cell_later hb1 z2_0
  have z3_1 := cell_later hb1 z3_0
  have k1 := froz_all hb1 z0_0 HZ.out
  clear m0_0 m1_0 z0_0 z1_0 z2_0 z3_0
  go_wp2_with fail
  refine (H1.out _ be1).mono ?_
  rintro e w2 ⟨rfl, hb2⟩
  have sz2 : w1.heap.size ≤ w2.heap.size := hb2.size
  have be2 := be1.trans (hb2.mono be1.size)
  have m0_2 := cell_later hb2 m0_1
  have m1_2 := cell_later hb2 m1_1
  have z0_2 := cell_later hb2 z0_1
  have z1_2 := cell_later hb2 z1_1
  have z2_2 := cell_later hb2 z2_1
  have z3_2 := cell_later hb2 z3_1
  have k2 := froz_all hb2 z0_1 k1
  clear k1
  clear m0_1 m1_1 z0_1 z1_1 z2_1 z3_1
  go_wp2_with fail
  refine (H2.out _ be2).mono ?_
  rintro e w3 ⟨rfl, hb3⟩
  have sz3 : w2.heap.size ≤ w3.heap.size := hb3.size
  have be3 := be2.trans (hb3.mono be2.size)
  have m0_3 := cell_later hb3 m0_2
  have m1_3 := cell_later hb3 m1_2
  have z0_3 := cell_later hb3 z0_2
  have z1_3 := cell_later hb3 z1_2
  have z2_3 := cell_later hb3 z2_2
  have z3_3 := cell_later hb3 z3_2
  have k3 := froz_all hb3 z0_2 k2
  clear k2
  clear m0_2 m1_2 z0_2 z1_2 z2_2 z3_2
  go_wp2_with fail
  refine (HK.out _ be3).mono ?_
  rintro e w4 ⟨v, rfl, ho, hb4⟩
  obtain ⟨AV, cv, rfl, -, -⟩ := ho.slice
  have M0 := Lib.hid (And.intro m0_3 m1_3)
  have M1 := Lib.hid (And.intro z0_3 (And.intro z1_3 (And.intro z2_3 z3_3)))
  have M2 := Lib.hid k3
  have HO := Lib.hid ho
  have zz3 : w.heap.size + 1 < w3.heap.size := World.block_lt_of_cell? _ _ z0_3
  clear m0_3 m1_3 z0_3 z1_3 z2_3 z3_3 k3 ho HZ hb1 hb2 hb3
  go_wp2_with fail
  go_loopw [42] (fun i wr => ∃ j : Nat, j ≤ ds.length ∧ i = .int .i64 j ∧ Below w3.heap.size w3 wr ∧ Own w3.heap.size wr (.slice AV ps.length cv) (gainN ps ds j)) (fun i _ => ds.length - (intOf i).toNat)
  case atStart => exact ⟨0, Nat.zero_le _, rfl, hb4, by rw [gainN_start]; exact HO.out⟩
  case round =>
    obtain ⟨j, hj, rfl, hb, hown⟩ := hrel
    have hbz := be3.trans (hb.mono be3.size)
    by_cases hlt : j < ds.length
    · have hl := gainN_length ps ds j
      obtain ⟨ad, rfl, hab, hcl⟩ := (J1.out.below hbz).atD (k := j) hlt
      rcases hown.form with ⟨_, he⟩ | ⟨g, c', he, hg1, hg2⟩
      · exfalso
        rw [he] at hl
        have := E12.out
        simp at hl
        omega
      injection he with e1 e2 e3
      subst e1
      have hown' : wr.ownsRow w3.heap.size 2 1 (.slice (some ⟨g, 0, none⟩) ps.length cv) ps.length (vals (gainN ps ds j)) := by have h := hown; unfold Own at h; rw [hl] at h; exact h
      have hjp : j < ps.length := by have := E12.out; omega
      have hco : wr.cell? ⟨g, j, none⟩ = some (.int .i64 (ps.getD j 0)) := by
        rw [World.ownsRow.cellAt hown' j (by omega), vals_get (by rw [hl]; omega), gainN_get, if_neg (by omega)]
      have hfz : wr.frozen? ⟨g, j, none⟩ = false := World.ownsRow.frozenAt hown' j
      obtain ⟨a1, a2⟩ := HB1.out j (by have := EX.out; omega)
      obtain ⟨b1, b2⟩ := HB2.out j (by have := EX.out; omega)
      have HS := Lib.hid (gainN_set ps ds j)
      have HO := Lib.hid hown'
      clear hown hown' hl e2 e3
      generalize ds.getD j 0 = x at *
      generalize ps.getD j 0 = y at *
      have i0 : (0 : Int) ≤ (j : Int) := by omega
      have i1 : (j : Int) < ds.length := by omega
      have i2 : (j : Int) < ps.length := by omega
      go_wp2
      go_roundw
      case rel =>
        obtain ⟨r1, r2⟩ := World.ownsRow.stored HO.out j (.int .i64 (y - x))
        rw [vals_set, HS.out] at r1
        exact ⟨j + 1, by omega, by go_num, hb.setCell (by simpa using hg1) _, by unfold Own; rw [gainN_length]; exact r1⟩
      case measure => simp [intOf]; omega
    · obtain rfl : j = ds.length := by omega
      have HO := Lib.hid hown
      have m0 := cell_later hb M0.out.1
      have m1 := cell_later hb M0.out.2
      have z0 := cell_later hb M1.out.1
      have z1 := cell_later hb M1.out.2.1
      have z2 := cell_later hb M1.out.2.2.1
      have z3 := cell_later hb M1.out.2.2.2
      have kf := froz_all hb M1.out.1 M2.out
      clear hown
      go_wp2
      obtain ⟨r0, r1, r2, r3⟩ := set4 (.int .i64 J) (.slice A xs.length cp) (.slice AV ps.length cv) (.slice A3 rs.length c3) z0 z1 z2 z3
      refine bodyPost_ret (v := .tuple #[.agg #[.int .i64 J, .slice A xs.length cp, .slice AV ps.length cv, .slice A3 rs.length c3], .int .i64 0]) (by simp [results, Try.results58, go_sem, r0, r1, r2, r3]) rfl ⟨_, rfl, ?_, (((hbz.setCell (by simp) _).setCell (by simp) _).setCell (by simp) _).setCell (by simp) _⟩
      have h := HO.out
      rw [← E12.out] at h
      unfold Own at h ⊢
      have h1 := ownsRow_setCell_below h (a := ⟨w.heap.size + 1, 0, none⟩) (by simp <;> omega) (.int .i64 J)
      have h2 := ownsRow_setCell_below h1 (a := ⟨w.heap.size + 1, 1, none⟩) (by simp <;> omega) (.slice A xs.length cp)
      have h3 := ownsRow_setCell_below h2 (a := ⟨w.heap.size + 1, 2, none⟩) (by simp <;> omega) (.slice AV ps.length cv)
      have h4 := ownsRow_setCell_below h3 (a := ⟨w.heap.size + 1, 3, none⟩) (by simp <;> omega) (.slice A3 rs.length c3)
      exact Own.base (b := w3.heap.size) h4 (fun g h => by have := (World.ownsRow.lt h4 g h).1; omega)
end Go.Proofs.Ytlgagnbnjfneaaa
