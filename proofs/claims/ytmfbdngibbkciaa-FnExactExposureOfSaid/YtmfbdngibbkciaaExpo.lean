/- Stays among dust, and their exposure: the program's and the reference's; and the walk of the law. No conditions beyond the lists' lengths. -/
import Derived.Test.YtmfbdngibbkciaaDustG
import Derived.Test.YtmfbdngibbkciaaNest
import Derived.Test.YtmfbdngibbkciaaFrame4
namespace Go.Proofs.Ytmfbdngibbkciaa
open Go.RowKit
open Pl
/-- A stay: airway, first minute, last minute. -/
def stayOk (ys : List Int) : Bool := decide (ys.length = 3) && dustingB (ys.getD 0 0) (ys.getD 1 0) (ys.getD 2 0) 0
def staysB (yss : List (List Int)) : Bool := decide ((yss.length : Int) ≤ 12) && allUp (fun k => stayOk (yss.getD k [])) yss.length
theorem three_cells {B : Nat} {w : World} {A : Option Addr} {ys : List Int} (h : ys.length = 3) (hI : Ints B w A ys) : ∃ ad, A = some ad ∧ ad.block < B ∧ w.cell? ad = some (.int .i64 (ys.getD 0 0)) ∧ w.cell? ⟨ad.block, ad.off + 1, none⟩ = some (.int .i64 (ys.getD 1 0)) ∧ w.cell? ⟨ad.block, ad.off + 2, none⟩ = some (.int .i64 (ys.getD 2 0)) := by
  obtain ⟨ad, e, hb, hc⟩ := hI (by omega)
  refine ⟨ad, e, hb, ?_, ?_, ?_⟩
  · rw [getD_pt (by omega)]; have := hc 0 (by omega); rwa [show ad.add 0 = ad by simp [Addr.add]] at this
  · rw [getD_pt (by omega)]; exact hc 1 (by omega)
  · rw [getD_pt (by omega)]; exact hc 2 (by omega)
set_option maxRecDepth 100000 in
theorem staysOk1_three (ad : Addr) (c : Nat) (y0 y1 y2 : Int) (w : World) (c0 : w.cell? ad = some (.int .i64 y0)) (c1 : w.cell? ⟨ad.block, ad.off + 1, none⟩ = some (.int .i64 y1)) (c2 : w.cell? ⟨ad.block, ad.off + 2, none⟩ = some (.int .i64 y2)) :
    Calls Try.prog 106 #[.slice (some ad) 3 c] w fun e w' => e = .returned (.bool (!dustingB y0 y1 y2 0)) ∧ Below w.heap.size w w' := by
  have HV := Lib.hid (ValidDusting_i y0 y1 y2 0)
  generalize dustingB y0 y1 y2 0 = r at *
  have e0 := fun L : Later w => L.cell c0
  have e1 := fun L : Later w => L.cell c1
  have e2 := fun L : Later w => L.cell c2
  clear c0 c1 c2
  go_enter Try.func106, Try.ntmps106
  go_wp2
  refine wp_region_later (by kernel_rfl) (by kernel_rfl) ?_
  repeat (go_big_quiet_step ((go_at_call 57; first | (with_reducible exact later_b (HV.out _)) | (with_reducible exact later_d (HV.out _)) | (with_reducible exact later_s (HV.out _)))))
  refine wpQuiet_nil ?_
  intro _ hw'
  obtain ⟨LL, hw''⟩ := hw'
  subst hw''
  go_wp2
  go_ret
  exact ⟨rfl, LL.below⟩
set_option maxRecDepth 100000 in
theorem staysOk1_no (A : Option Addr) (c n : Nat) (w : World) (h : n ≠ 3) :
    Calls Try.prog 106 #[.slice A n c] w fun e w' => e = .returned (.bool true) ∧ Below w.heap.size w w' := by
  have h1 : ((n : Int) != 3) = true := by simp; omega
  have h2 : (!((n : Int) == 3)) = true := by simp; omega
  clear h
  go_enter Try.func106, Try.ntmps106
  go_wp2
  refine wp_region_later (by kernel_rfl) (by kernel_rfl) ?_
  repeat (go_big_quiet_step (fail))
  refine wpQuiet_nil ?_
  intro _ hw'
  obtain ⟨LL, hw''⟩ := hw'
  subst hw''
  go_wp2
  go_ret
  exact ⟨rfl, LL.below⟩
theorem staysOk1_any (A : Option Addr) (c : Nat) (ys : List Int) (B : Nat) (w : World) (hI : Ints B w A ys) :
    Calls Try.prog 106 #[.slice A ys.length c] w fun e w' => e = .returned (.bool (!stayOk ys)) ∧ Below w.heap.size w w' := by
  unfold stayOk
  by_cases h : ys.length = 3
  · obtain ⟨ad, rfl, _, c0, c1, c2⟩ := three_cells h hI
    rw [decide_eq_true h, h]
    exact staysOk1_three ad c _ _ _ w c0 c1 c2
  · rw [decide_eq_false h]
    exact staysOk1_no A c _ w h
set_option maxRecDepth 100000 in
theorem IndexFuncS_any (A : Option Addr) (c m : Nat) (yss : List (List Int)) (B : Nat) (w : World) (hn : (yss.length : Int) ≤ 1099511627776) (hI : Nest B w A yss) (hB : B ≤ w.heap.size) (h1 : ∀ k, k < m → stayOk (yss.getD k []) = true) (h2 : m < yss.length → stayOk (yss.getD m []) = false) :
    Calls Try.prog 112 #[.slice A yss.length c, .func (.func 106) #[] #[]] w fun e w' => e = .returned (.int .i64 (if m < yss.length then (m : Int) else -1)) ∧ Below w.heap.size w w' := by
  have H1 := Lib.hid h1
  have H2 := Lib.hid h2
  have J := Lib.hid (hI.more hB)
  have eg : ∀ args w, (callFunc 106 args).run Try.prog w = .ok (.enter 106 args) w := enters_of Try.func106 (by kernel_rfl) rfl
  clear h1 h2 hI
  obtain ⟨R, hR⟩ : ∃ R : Int, R = if m < yss.length then (m : Int) else -1 := ⟨_, rfl⟩
  rw [← hR]
  have HR := Lib.hid hR
  clear hR
  go_enter Try.func112, Try.ntmps112
  go_wp2
  go_loopw [8] (fun i wr => ∃ k : Nat, k ≤ m ∧ i = .int .i64 k ∧ Below w.heap.size w wr) (fun i _ => yss.length - (intOf i).toNat)
  case atStart => exact ⟨0, Nat.zero_le _, rfl, Below.refl _ _⟩
  case round =>
    obtain ⟨k, hk, rfl, hb⟩ := hrel
    by_cases hlt : k < yss.length
    · obtain ⟨b, o, rfl, hab, A', c', hc, hI'⟩ := (J.out.below hb).atD hlt
      have HQ := Lib.hid (staysOk1_any A' c' (yss.getD k []) w.heap.size wr hI')
      clear hI'
      by_cases hb' : k < m
      · have hp := H1.out k hb'
        generalize yss.getD k [] = ys at *
        rw [hp] at HQ
        clear hp
        go_wp2_with (go_at_fn 106; refine HQ.out.mono ?_; rintro e w' ⟨rfl, hb2⟩)
        go_roundw
        case rel => exact ⟨k + 1, by omega, by go_num, hb.trans (hb2.mono hb.size)⟩
        case measure => simp [intOf]; omega
      · obtain rfl : m = k := by omega
        have hp := H2.out hlt
        generalize yss.getD m [] = ys at *
        rw [hp] at HQ
        clear hp
        go_wp2_with (go_at_fn 106; refine HQ.out.mono ?_; rintro e w' ⟨rfl, hb2⟩)
        go_ret
        exact ⟨ret_int (by rw [HR.out, if_pos hlt]), hb.trans (hb2.mono hb.size)⟩
    · go_wp2
      go_ret
      exact ⟨ret_int (by rw [HR.out, if_neg (by omega)]), hb⟩
theorem staysOk_any (A : Option Addr) (c : Nat) (yss : List (List Int)) (B : Nat) (w : World) (hn : (yss.length : Int) ≤ 1099511627776) (hI : Nest B w A yss) (hB : B ≤ w.heap.size) :
    Calls Try.prog 90 #[.slice A yss.length c] w fun e w' => e = .returned (.bool (staysB yss)) ∧ Below w.heap.size w w' := by
  obtain ⟨m, m1, m2, m3⟩ := first_stop (fun k => stayOk (yss.getD k [])) yss.length
  have HX := Lib.hid (IndexFuncS_any A c m yss B w hn hI hB m2 m3)
  have HU := Lib.hid (allUp_stop m1 m2 m3)
  have HC : Hid (Calls Try.prog 105 #[.slice A yss.length c, .func (.func 106) #[] #[]] w fun e w' => e = .returned (.bool (decide (m < yss.length))) ∧ Below w.heap.size w w') := Lib.hid (by
    clear m2 m3 hI
    by_cases hh : m < yss.length
    · rw [if_pos hh] at HX
      have HD := Lib.hid (decide_eq_true hh)
      go_enter Try.func105, Try.ntmps105
      go_wp2_with (go_at_call 112; refine HX.out.mono ?_; rintro e w' ⟨rfl, hb⟩)
      go_ret
      exact ⟨ret_bool (by rw [HD.out]), hb⟩
    · rw [if_neg hh] at HX
      have HD := Lib.hid (decide_eq_false hh)
      go_enter Try.func105, Try.ntmps105
      go_wp2_with (go_at_call 112; refine HX.out.mono ?_; rintro e w' ⟨rfl, hb⟩)
      go_ret
      exact ⟨ret_bool (by rw [HD.out]), hb⟩)
  obtain ⟨R, hR⟩ : ∃ R, R = staysB yss := ⟨_, rfl⟩
  rw [← hR]
  have HR := Lib.hid hR
  clear m2 m3 hI hR
  by_cases h0 : (yss.length : Int) ≤ 12
  · by_cases hh : m < yss.length
    · rw [decide_eq_true hh] at HC
      have HD : Hid (staysB yss = false) := Lib.hid (by unfold staysB; rw [HU.out, decide_eq_false (show ¬ m = yss.length by omega)]; simp)
      go_enter Try.func90, Try.ntmps90
      go_wp2_with (go_at_call 105; refine HC.out.mono ?_; rintro e w' ⟨rfl, hb⟩)
      go_ret
      exact ⟨ret_bool (by rw [HR.out, HD.out]), hb⟩
    · rw [decide_eq_false hh] at HC
      have HD : Hid (staysB yss = true) := Lib.hid (by unfold staysB; rw [HU.out, decide_eq_true (show m = yss.length by omega), decide_eq_true h0]; simp)
      go_enter Try.func90, Try.ntmps90
      go_wp2_with (go_at_call 105; refine HC.out.mono ?_; rintro e w' ⟨rfl, hb⟩)
      go_ret
      exact ⟨ret_bool (by rw [HR.out, HD.out]), hb⟩
  · have HD : Hid (staysB yss = false) := Lib.hid (by unfold staysB; rw [decide_eq_false h0]; simp)
    go_enter Try.func90, Try.ntmps90
    go_wp2_with fail
    go_ret
    exact ⟨ret_bool (by rw [HR.out, HD.out]), Below.refl _ _⟩
theorem stayOk_alt (ys : List Int) (h : ys.length = 3) : stayOk ys = (inB (ys.getD 0 0) 0 23 && (inB (ys.getD 1 0) 0 1439 && inB (ys.getD 2 0) (ys.getD 1 0 + 1) 1440)) := by
  unfold stayOk
  rw [decide_eq_true h, dustingB_alt, show inB 0 0 1000000 = true from rfl, Bool.and_true, Bool.true_and]
set_option maxRecDepth 100000 in
set_option maxHeartbeats 3200000 in
theorem l14Stays_any (A : Option Addr) (c : Nat) (yss : List (List Int)) (B : Nat) (w : World) (hn : (yss.length : Int) ≤ 1099511627776) (hl : ∀ ys ∈ yss, ys.length ≤ 1048576) (hI : Nest B w A yss) :
    Calls Try.prog 88 #[.slice A yss.length c] w fun e w' => e = .returned (.bool (staysB yss)) ∧ ∃ n, w.drewN n = w' := by
  obtain ⟨m, m1, m2, m3⟩ := first_stop (fun k => stayOk (yss.getD k [])) yss.length
  have HU := Lib.hid (allUp_stop m1 m2 m3)
  have H1 := Lib.hid m2
  have H2 := Lib.hid m3
  have HL := Lib.hid hl
  have J := Lib.hid hI
  obtain ⟨R, hR⟩ : ∃ R, R = staysB yss := ⟨_, rfl⟩
  rw [← hR]
  have HR := Lib.hid hR
  clear m2 m3 hI hR hl
  go_enter Try.func88, Try.ntmps88
  go_wp2
  go_loopw [3] (fun i wr => ∃ k : Nat, k ≤ m ∧ i = .int .i64 k ∧ ∃ n, w.drewN n = wr) (fun i _ => yss.length - (intOf i).toNat)
  case atStart => exact ⟨0, Nat.zero_le _, rfl, 0, rfl⟩
  case round =>
    obtain ⟨k, hk, rfl, n, rfl⟩ := hrel
    by_cases hlt : k < yss.length
    · obtain ⟨b, o, rfl, hab, A', c', hc, hI'⟩ := J.out.atD hlt
      have hll := HL.out _ (List.getElem_mem hlt)
      rw [← getD_il hlt] at hll
      have i0 : (0 : Int) ≤ (k : Int) := by omega
      have i1 : (k : Int) < yss.length := by omega
      by_cases hkm : k < m
      · have hp := H1.out k hkm
        have h3 : (yss.getD k []).length = 3 := by
          unfold stayOk at hp; rw [Bool.and_eq_true] at hp; exact of_decide_eq_true hp.1
        rw [stayOk_alt _ h3, Bool.and_eq_true] at hp
        obtain ⟨ad, rfl, _, c0, c1, c2⟩ := three_cells h3 hI'
        rw [h3] at hc
        generalize yss.getD k [] = ys at *
        generalize ys.getD 0 0 = y0 at *
        generalize ys.getD 1 0 = y1 at *
        generalize ys.getD 2 0 = y2 at *
        have HA := Lib.hid (fun W => eqb (l14Airway_any y0 W) hp.1)
        have HM := Lib.hid (fun W => eqb (l14Minutes_any y1 y2 W) hp.2)
        clear hp h3 hll hI'
        go_wp2
        go_big_quiet (first | (go_at_call 67; first | (with_reducible exact quiet_s (HA.out _)) | (with_reducible exact quiet_s2 (HA.out _))) | (go_at_call 104; first | (with_reducible exact quiet_s (HM.out _)) | (with_reducible exact quiet_s2 (HM.out _))))
        go_wp2
        go_roundw
        case rel => exact ⟨k + 1, by omega, by go_num, _, rfl⟩
        case measure => simp [intOf]; omega
      · obtain rfl : m = k := by omega
        have hp := H2.out hlt
        have HD : Hid (staysB yss = false) := Lib.hid (by unfold staysB; rw [HU.out, decide_eq_false (show ¬ m = yss.length by omega)]; simp)
        by_cases h3 : (yss.getD m []).length = 3
        · rw [stayOk_alt _ h3] at hp
          obtain ⟨ad, rfl, _, c0, c1, c2⟩ := three_cells h3 hI'
          rw [h3] at hc
          generalize yss.getD m [] = ys at *
          generalize ys.getD 0 0 = y0 at *
          generalize ys.getD 1 0 = y1 at *
          generalize ys.getD 2 0 = y2 at *
          cases ha : inB y0 0 23
          · have HA := Lib.hid (fun W => eqb (l14Airway_any y0 W) ha)
            clear hp h3 hll hI' ha
            go_wp2
            go_big_quiet ((go_at_call 67; first | (with_reducible exact quiet_s (HA.out _)) | (with_reducible exact quiet_s2 (HA.out _))))
            go_wp2
            go_ret
            exact ⟨ret_bool (by rw [HR.out, HD.out]), _, (World.drewN_drewN _ _ _).symm⟩
          · rw [ha, Bool.true_and] at hp
            have HA := Lib.hid (fun W => eqb (l14Airway_any y0 W) ha)
            have HM := Lib.hid (fun W => eqb (l14Minutes_any y1 y2 W) hp)
            clear hp h3 hll hI' ha
            go_wp2
            go_big_quiet (first | (go_at_call 67; first | (with_reducible exact quiet_s (HA.out _)) | (with_reducible exact quiet_s2 (HA.out _))) | (go_at_call 104; first | (with_reducible exact quiet_s (HM.out _)) | (with_reducible exact quiet_s2 (HM.out _))))
            go_wp2
            go_ret
            exact ⟨ret_bool (by rw [HR.out, HD.out]), _, (World.drewN_drewN _ _ _).symm⟩
        · generalize (yss.getD m []).length = ln at *
          have g1 : ((ln : Int) != 3) = true := by simp; omega
          have g2 : (!((ln : Int) == 3)) = true := by simp; omega
          clear hp h3 hI'
          go_wp2
          go_big_quiet (fail)
          go_wp2
          go_ret
          exact ⟨ret_bool (by rw [HR.out, HD.out]), _, (World.drewN_drewN _ _ _).symm⟩
    · have HD : Hid (staysB yss = decide ((yss.length : Int) ≤ 12)) := Lib.hid (by unfold staysB; rw [HU.out, decide_eq_true (show m = yss.length by omega)]; simp)
      by_cases h0 : (yss.length : Int) ≤ 12
      · rw [decide_eq_true h0] at HD
        go_wp2
        go_ret
        exact ⟨ret_bool (by rw [HR.out, HD.out]), _, rfl⟩
      · rw [decide_eq_false h0] at HD
        go_wp2
        go_ret
        exact ⟨ret_bool (by rw [HR.out, HD.out]), _, rfl⟩
set_option maxRecDepth 100000 in
theorem exposureOf_any (A : Option Addr) (c : Nat) (xs : List Dg) (B : Nat) (ad : Addr) (c' : Nat) (y0 y1 y2 : Int) (w : World) (hI : Recs encD 4 B w A xs) (hB : B ≤ w.heap.size) (hv : dsB xs = true)
    (c0 : w.cell? ad = some (.int .i64 y0)) (c1 : w.cell? ⟨ad.block, ad.off + 1, none⟩ = some (.int .i64 y1)) (c2 : w.cell? ⟨ad.block, ad.off + 2, none⟩ = some (.int .i64 y2)) (h1 : 0 ≤ y1) (h2 : y1 < y2) (h3 : y2 ≤ 1440) :
    Calls Try.prog 91 #[.slice A xs.length c, .slice (some ad) 3 c', .int .i64 1] w fun e w' => e = .returned (.int .i64 (stayN xs y0 y1 (y2 - y1).toNat)) ∧ Below w.heap.size w w' := by
  have J := Lib.hid (hI.more hB)
  have HV := Lib.hid hv
  have HB := Lib.hid (stayN_bd hv y0 y1)
  have HD := Lib.hid (dustA_bd hv y0)
  obtain ⟨T, hT⟩ : ∃ T : Nat, (y2 - y1).toNat = T := ⟨_, rfl⟩
  rw [hT]
  have hT2 : y2 = y1 + T := by omega
  have HT2 := Lib.hid hT2
  have hTb : y1 + T ≤ 1440 := by omega
  clear hI hv hT hT2
  go_enter Try.func91, Try.ntmps91
  go_wp2
  go_loopw [7, 8] (fun s i wr => ∃ k : Nat, k ≤ T ∧ i = .int .i64 (y1 + k) ∧ s = .int .i64 (stayN xs y0 y1 k) ∧ Below w.heap.size w wr) (fun _ i _ => (y2 - intOf i).toNat)
  case atStart => exact ⟨0, Nat.zero_le _, by go_num, rfl, Below.refl _ _⟩
  case round =>
    obtain ⟨k, hk, rfl, rfl, hb⟩ := hrel
    obtain ⟨s1, s2⟩ := HB.out k
    have d0 := cell_later hb c0
    have d1 := cell_later hb c1
    have d2 := cell_later hb c2
    have hq := HT2.out
    by_cases hlt : k < T
    · have HC := Lib.hid (dustAt_any A c xs y0 (y1 + k) w.heap.size wr (J.out.below hb) hb.size HV.out)
      obtain ⟨e1, e2⟩ := HD.out (y1 + k)
      have HS : Hid (stayN xs y0 y1 (k + 1) = stayN xs y0 y1 k + dustA xs y0 (y1 + k)) := Lib.hid rfl
      generalize dustA xs y0 (y1 + k) = y at *
      generalize stayN xs y0 y1 k = s at *
      have hlt2 : y1 + (k : Int) < y2 := by omega
      clear hq
      go_wp2_with (go_at_call 69; refine HC.out.mono ?_; rintro e w' ⟨rfl, hb2⟩)
      go_roundw
      case rel => exact ⟨k + 1, by omega, by go_num, by rw [HS.out], hb.trans (hb2.mono hb.size)⟩
      case measure => simp [intOf]; omega
    · obtain rfl : k = T := by omega
      have hge : y2 ≤ y1 + (k : Int) := by omega
      clear hq
      go_wp2
      go_ret
      exact ⟨rfl, hb⟩
set_option maxRecDepth 100000 in
theorem l14Exposure_any (A : Option Addr) (c : Nat) (xs : List Dg) (B : Nat) (ad : Addr) (c' : Nat) (y0 y1 y2 : Int) (w : World) (hI : Recs encD 4 B w A xs) (hv : dsB xs = true)
    (c0 : w.cell? ad = some (.int .i64 y0)) (c1 : w.cell? ⟨ad.block, ad.off + 1, none⟩ = some (.int .i64 y1)) (c2 : w.cell? ⟨ad.block, ad.off + 2, none⟩ = some (.int .i64 y2)) (h1 : 0 ≤ y1) (h2 : y1 < y2) (h3 : y2 ≤ 1440) :
    Calls Try.prog 89 #[.slice A xs.length c, .slice (some ad) 3 c', .int .i64 1] w fun e w' => e = .returned (.int .i64 (stayN xs y0 y1 (y2 - y1).toNat)) ∧ w = w' := by
  have J := Lib.hid hI
  have HV := Lib.hid hv
  have HB := Lib.hid (stayN_bd hv y0 y1)
  have HD := Lib.hid (dustA_bd hv y0)
  obtain ⟨T, hT⟩ : ∃ T : Nat, (y2 - y1).toNat = T := ⟨_, rfl⟩
  rw [hT]
  have hT2 : y2 = y1 + T := by omega
  have HT2 := Lib.hid hT2
  have hTb : y1 + T ≤ 1440 := by omega
  clear hI hv hT hT2
  go_enter Try.func89, Try.ntmps89
  go_wp2
  go_loop [7, 8] (fun s i => ∃ k : Nat, k ≤ T ∧ i = .int .i64 (y1 + k) ∧ s = .int .i64 (stayN xs y0 y1 k)) (fun _ i => (y2 - intOf i).toNat)
  case atStart => exact ⟨0, Nat.zero_le _, by go_num, rfl⟩
  case round =>
    obtain ⟨k, hk, rfl, rfl⟩ := hrel
    obtain ⟨s1, s2⟩ := HB.out k
    have hq := HT2.out
    by_cases hlt : k < T
    · have HC := Lib.hid (l14At_any A c xs y0 (y1 + k) B w J.out HV.out)
      obtain ⟨e1, e2⟩ := HD.out (y1 + k)
      have HS : Hid (stayN xs y0 y1 (k + 1) = stayN xs y0 y1 k + dustA xs y0 (y1 + k)) := Lib.hid rfl
      generalize dustA xs y0 (y1 + k) = y at *
      generalize stayN xs y0 y1 k = s at *
      have hlt2 : y1 + (k : Int) < y2 := by omega
      clear hq
      go_wp2_with (go_at_call 68; refine HC.out.mono ?_; rintro e w' ⟨rfl, rfl⟩)
      go_round
      case rel => exact ⟨k + 1, by omega, by go_num, by rw [HS.out]⟩
      case measure => simp [intOf]; omega
    · obtain rfl : k = T := by omega
      have hge : y2 ≤ y1 + (k : Int) := by omega
      clear hq
      go_wp2
      go_ret
      exact ⟨rfl, rfl⟩
/-- The exposure of one stay; of the first k. -/
def expo1 (xs : List Dg) (ys : List Int) : Int := stayN xs (ys.getD 0 0) (ys.getD 1 0) (ys.getD 2 0 - ys.getD 1 0).toNat
def expoN (xs : List Dg) (yss : List (List Int)) : Nat → Int | 0 => 0 | k + 1 => expoN xs yss k + expo1 xs (yss.getD k [])
def expoF (xs : List Dg) (yss : List (List Int)) : Int × Int := if dsB xs then (if staysB yss then (expoN xs yss yss.length, 0) else (0, 2)) else (0, 1)
theorem stayOk_bd {ys : List Int} (h : stayOk ys = true) : ys.length = 3 ∧ 0 ≤ ys.getD 1 0 ∧ ys.getD 1 0 < ys.getD 2 0 ∧ ys.getD 2 0 ≤ 1440 := by
  unfold stayOk at h
  rw [Bool.and_eq_true] at h
  obtain ⟨_, ⟨a, b⟩, c, _⟩ := dOk_bd (show dOk (ys.getD 0 0, ys.getD 1 0, ys.getD 2 0, 0) = true from h.2)
  exact ⟨of_decide_eq_true h.1, a, b, c⟩
theorem staysB_bd {yss : List (List Int)} (h : staysB yss = true) : (yss.length : Int) ≤ 12 ∧ ∀ k, k < yss.length → stayOk (yss.getD k []) = true := by
  unfold staysB at h
  rw [Bool.and_eq_true, decide_eq_true_iff, allUp_iff] at h
  exact h
theorem expo1_bd {xs : List Dg} {ys : List Int} (h : dsB xs = true) (hy : stayOk ys = true) : 0 ≤ expo1 xs ys ∧ expo1 xs ys ≤ 17280000000 := by
  obtain ⟨_, a, b, c⟩ := stayOk_bd hy
  obtain ⟨d, e⟩ := stayN_bd h (ys.getD 0 0) (ys.getD 1 0) (ys.getD 2 0 - ys.getD 1 0).toNat
  unfold expo1
  omega
theorem expoN_bd {xs : List Dg} {yss : List (List Int)} (h : dsB xs = true) (hy : ∀ k, k < yss.length → stayOk (yss.getD k []) = true) : ∀ k : Nat, k ≤ yss.length → 0 ≤ expoN xs yss k ∧ expoN xs yss k ≤ 17280000000 * k
  | 0, _ => by simp [expoN]
  | k + 1, hk => by
    obtain ⟨a, b⟩ := expoN_bd h hy k (by omega)
    obtain ⟨c, d⟩ := expo1_bd h (hy k (by omega))
    unfold expoN
    omega
set_option maxRecDepth 100000 in
theorem ExposureOf_i (A : Option Addr) (c : Nat) (xs : List Dg) (A' : Option Addr) (c' : Nat) (yss : List (List Int)) (w : World) (hn : (xs.length : Int) ≤ 1048576) (hI : Recs encD 4 w.heap.size w A xs) (hn' : (yss.length : Int) ≤ 1048576) (hI' : Nest w.heap.size w A' yss) :
    Calls Try.prog 45 #[.slice A xs.length c, .slice A' yss.length c'] w fun e w' => e = .returned (.tuple #[.int .i64 (expoF xs yss).1, .int .i64 (expoF xs yss).2]) ∧ Below w.heap.size w w' := by
  have HL := Lib.hid (ValidDustings_i A c xs w.heap.size w (by omega) hI (Nat.le_refl _))
  have J := Lib.hid hI
  have J' := Lib.hid hI'
  clear hI hI'
  obtain ⟨R, hR⟩ : ∃ R, R = expoF xs yss := ⟨_, rfl⟩
  rw [← hR]
  have HR := Lib.hid hR
  clear hR
  cases hv : dsB xs
  · rw [hv] at HL
    have HF : Hid (expoF xs yss = (0, 1)) := Lib.hid (by unfold expoF; rw [hv]; rfl)
    clear hv
    go_enter Try.func45, Try.ntmps45
    go_wp2_with fail
    refine HL.out.mono ?_
    rintro e w1 ⟨rfl, hb⟩
    go_wp2
    go_ret2
    exact ⟨ret_ii (by rw [HR.out, HF.out]), hb⟩
  · rw [hv] at HL
    have HV := Lib.hid hv
    have HS := Lib.hid (fun (W : World) (hb : Below w.heap.size w W) => staysOk_any A' c' yss w.heap.size W (by omega) (J'.out.below hb) hb.size)
    cases hs : staysB yss
    · rw [hs] at HS
      have HF : Hid (expoF xs yss = (0, 2)) := Lib.hid (by unfold expoF; rw [hv, hs]; rfl)
      clear hv hs
      go_enter Try.func45, Try.ntmps45
      go_wp2_with fail
      refine HL.out.mono ?_
      rintro e w1 ⟨rfl, hb⟩
      go_wp2_with fail
      refine (HS.out _ hb).mono ?_
      rintro e w2 ⟨rfl, hb2⟩
      go_wp2
      go_ret2
      exact ⟨ret_ii (by rw [HR.out, HF.out]), hb.trans (hb2.mono hb.size)⟩
    · rw [hs] at HS
      have HF : Hid (expoF xs yss = (expoN xs yss yss.length, 0)) := Lib.hid (by unfold expoF; rw [hv, hs]; rfl)
      obtain ⟨s1, s2⟩ := staysB_bd hs
      have HB := Lib.hid (expoN_bd hv s2)
      have HO := Lib.hid s2
      clear hv hs s2
      go_enter Try.func45, Try.ntmps45
      go_wp2_with fail
      refine HL.out.mono ?_
      rintro e w1 ⟨rfl, hb⟩
      go_wp2_with fail
      refine (HS.out _ hb).mono ?_
      rintro e w2 ⟨rfl, hb2⟩
      have hbb := hb.trans (hb2.mono hb.size)
      clear hb hb2
      go_wp2
      go_loopw [6, 19] (fun s i wr => ∃ k : Nat, k ≤ yss.length ∧ i = .int .i64 k ∧ s = .int .i64 (expoN xs yss k) ∧ Below w.heap.size w wr) (fun _ i _ => yss.length - (intOf i).toNat)
      case atStart => exact ⟨0, Nat.zero_le _, rfl, rfl, hbb⟩
      case round =>
        obtain ⟨k, hk, rfl, rfl, hb⟩ := hrel
        obtain ⟨b1, b2⟩ := HB.out k hk
        by_cases hlt : k < yss.length
        · obtain ⟨b, o, rfl, hab, A1, c1, hc, hI1⟩ := (J'.out.below hb).atD hlt
          have hok := HO.out k hlt
          obtain ⟨l3, y1, y2, y3⟩ := stayOk_bd hok
          obtain ⟨e1, e2⟩ := expo1_bd HV.out hok
          obtain ⟨ad, rfl, _, c0', c1', c2'⟩ := three_cells l3 hI1
          have HE := Lib.hid (exposureOf_any A c xs w.heap.size ad c1 _ _ _ wr (J.out.below hb) hb.size HV.out c0' c1' c2' y1 y2 y3)
          have HN : Hid (expoN xs yss (k + 1) = expoN xs yss k + expo1 xs (yss.getD k [])) := Lib.hid rfl
          rw [l3] at hc
          change Hid (Calls _ _ _ _ fun e w' => e = .returned (.int .i64 (expo1 xs (yss.getD k []))) ∧ _) at HE
          generalize expo1 xs (yss.getD k []) = y at *
          generalize expoN xs yss k = s at *
          clear c0' c1' c2' hI1 l3 hok
          go_wp2_with (go_at_call 91; refine HE.out.mono ?_; rintro e w' ⟨rfl, hb2⟩)
          go_roundw
          case rel => exact ⟨k + 1, by omega, by go_num, by rw [HN.out], hb.trans (hb2.mono hb.size)⟩
          case measure => simp [intOf]; omega
        · obtain rfl : k = yss.length := by omega
          go_wp2
          go_ret2
          exact ⟨ret_ii (by rw [HR.out, HF.out]), hb⟩
set_option maxRecDepth 100000 in
theorem ExposureOf_s (A : Option Addr) (c : Nat) (xs : List Dg) (A' : Option Addr) (c' : Nat) (yss : List (List Int)) (w : World) (hn : (xs.length : Int) ≤ 1048576) (hI : Recs encD 4 w.heap.size w A xs) (hn' : (yss.length : Int) ≤ 1048576) (hl : ∀ ys ∈ yss, ys.length ≤ 1048576) (hI' : Nest w.heap.size w A' yss) :
    Calls Try.prog 43 #[.slice A xs.length c, .slice A' yss.length c'] w fun e w' => e = .returned (.tuple #[.int .i64 (expoF xs yss).1, .int .i64 (expoF xs yss).2]) ∧ Below w.heap.size w w' := by
  have HL := Lib.hid (l14Ok_any A c xs w.heap.size w (by omega) hI (Nat.le_refl _))
  have J := Lib.hid hI
  have J' := Lib.hid hI'
  clear hI hI'
  obtain ⟨R, hR⟩ : ∃ R, R = expoF xs yss := ⟨_, rfl⟩
  rw [← hR]
  have HR := Lib.hid hR
  clear hR
  cases hv : dsB xs
  · rw [hv] at HL
    have HF : Hid (expoF xs yss = (0, 1)) := Lib.hid (by unfold expoF; rw [hv]; rfl)
    clear hv hl
    go_enter Try.func43, Try.ntmps43
    go_wp2_with fail
    refine HL.out.mono ?_
    rintro e w1 ⟨rfl, hb⟩
    go_wp2
    go_ret2
    exact ⟨ret_ii (by rw [HR.out, HF.out]), hb⟩
  · rw [hv] at HL
    have HV := Lib.hid hv
    have HS := Lib.hid (fun (W : World) (hb : Below w.heap.size w W) => dB (l14Stays_any A' c' yss w.heap.size W (by omega) hl (J'.out.below hb)))
    clear hl
    cases hs : staysB yss
    · rw [hs] at HS
      have HF : Hid (expoF xs yss = (0, 2)) := Lib.hid (by unfold expoF; rw [hv, hs]; rfl)
      clear hv hs
      go_enter Try.func43, Try.ntmps43
      go_wp2_with fail
      refine HL.out.mono ?_
      rintro e w1 ⟨rfl, hb⟩
      go_wp2_with fail
      refine (HS.out _ hb).mono ?_
      rintro e w2 ⟨rfl, hb2⟩
      go_wp2
      go_ret2
      exact ⟨ret_ii (by rw [HR.out, HF.out]), hb.trans (hb2.mono hb.size)⟩
    · rw [hs] at HS
      have HF : Hid (expoF xs yss = (expoN xs yss yss.length, 0)) := Lib.hid (by unfold expoF; rw [hv, hs]; rfl)
      obtain ⟨s1, s2⟩ := staysB_bd hs
      have HB := Lib.hid (expoN_bd hv s2)
      have HO := Lib.hid s2
      clear hv hs s2
      go_enter Try.func43, Try.ntmps43
      go_wp2_with fail
      refine HL.out.mono ?_
      rintro e w1 ⟨rfl, hb⟩
      go_wp2_with fail
      refine (HS.out _ hb).mono ?_
      rintro e w2 ⟨rfl, hb2⟩
      have hbb := hb.trans (hb2.mono hb.size)
      clear hb hb2
      go_wp2
      go_loop [6, 7] (fun s i => ∃ k : Nat, k ≤ yss.length ∧ i = .int .i64 k ∧ s = .int .i64 (expoN xs yss k)) (fun _ i => yss.length - (intOf i).toNat)
      case atStart => exact ⟨0, Nat.zero_le _, rfl, rfl⟩
      case round =>
        obtain ⟨k, hk, rfl, rfl⟩ := hrel
        obtain ⟨b1, b2⟩ := HB.out k hk
        by_cases hlt : k < yss.length
        · obtain ⟨b, o, rfl, hab, A1, c1, hc, hI1⟩ := (J'.out.below hbb).atD hlt
          have hok := HO.out k hlt
          obtain ⟨l3, y1, y2, y3⟩ := stayOk_bd hok
          obtain ⟨e1, e2⟩ := expo1_bd HV.out hok
          obtain ⟨ad, rfl, _, c0', c1', c2'⟩ := three_cells l3 hI1
          have HE := Lib.hid (l14Exposure_any A c xs w.heap.size ad c1 _ _ _ w2 (J.out.below hbb) HV.out c0' c1' c2' y1 y2 y3)
          have HN : Hid (expoN xs yss (k + 1) = expoN xs yss k + expo1 xs (yss.getD k [])) := Lib.hid rfl
          rw [l3] at hc
          change Hid (Calls _ _ _ _ fun e w' => e = .returned (.int .i64 (expo1 xs (yss.getD k []))) ∧ _) at HE
          generalize expo1 xs (yss.getD k []) = y at *
          generalize expoN xs yss k = s at *
          clear c0' c1' c2' hI1 l3 hok
          go_wp2_with (go_at_call 89; refine HE.out.mono ?_; rintro e w' ⟨rfl, rfl⟩)
          go_round
          case rel => exact ⟨k + 1, by omega, by go_num, by rw [HN.out]⟩
          case measure => simp [intOf]; omega
        · obtain rfl : k = yss.length := by omega
          go_wp2
          go_ret2
          exact ⟨ret_ii (by rw [HR.out, HF.out]), hbb⟩
theorem totLen_ge (xss : List (List Int)) : ∀ (n k : Nat), k < n → ((xss.getD k []).length : Int) ≤ totLen xss n
  | n + 1, k, h => by
    have h0 := totLen_nonneg xss n
    unfold totLen
    by_cases e : k = n
    · subst e; omega
    · have := totLen_ge xss n k (by omega); omega
theorem lens_le {xss : List (List Int)} {n : Int} (h : totLen xss xss.length ≤ n) (hn : n ≤ 1048576) : ∀ xs ∈ xss, xs.length ≤ 1048576 := by
  intro xs hx
  obtain ⟨k, hk, rfl⟩ := List.getElem_of_mem hx
  have := totLen_ge xss xss.length k hk
  rw [getD_il hk] at this
  omega
set_option maxRecDepth 100000 in
set_option maxHeartbeats 1600000 in
theorem fnExactExposureOf_walk {w : World} (A0 : Option Addr) (c0 : Nat) (xs0 : List Dg) (I0 : Recs encD 4 w.heap.size w A0 xs0) (_ : FitsD xs0) (l0 : xs0.length ≤ maxLen) (A1 : Option Addr) (c1 : Nat) (xs1 : List (List Int)) (I1 : Nest w.heap.size w A1 xs1) (F1 : FitsSS xs1) (l1 : xs1.length ≤ maxLen) :
    Calls Try.prog 12 #[.slice A0 xs0.length c0, .slice A1 xs1.length c1] w fun e w' => e = .returned (.bool true) ∧ Below w.heap.size w w' := by
  have HI := Lib.hid I0
  have HI2 := Lib.hid I1
  clear I0 I1
  by_cases hn0 : (xs0.length : Int) ≤ 1048576
  rotate_left
  · have HZ := Lib.hid (fun W => szDustingS_no A0 c0 xs0.length 1048576 W (by omega) (by omega) l0 (by omega))
    clear F1
    go_enter Try.func12, Try.ntmps12
    go_wp2_with (go_at_call 17; refine (HZ.out _).mono ?_; rintro e w' ⟨rfl, rfl⟩)
    go_ret
    exact ⟨rfl, Below.refl _ _⟩
  have HZ := Lib.hid (fun W => szDustingS_yes A0 c0 xs0.length 1048576 W (by omega) (by omega))
  have HZ2 := Lib.hid (fun W => szInt64SS_any A1 c1 xs1 (1048576 - xs0.length) w.heap.size W (by omega) (by omega) l1 (fun xs hx => (F1 xs hx).2))
  clear F1
  obtain ⟨r, hr⟩ : ∃ r, szL xs1 (1048576 - xs0.length) = r := ⟨_, rfl⟩
  rw [hr] at HZ2
  have t0 := totLen_nonneg xs1 xs1.length
  by_cases hz : (xs1.length : Int) + totLen xs1 xs1.length ≤ 1048576 - xs0.length
  · have HL := Lib.hid (lens_le (xss := xs1) (n := 1048576) (by omega) (by omega))
    have hr0 : 0 ≤ r := by rw [← hr]; unfold szL; rw [if_pos hz]; omega
    have hn1 : (xs1.length : Int) ≤ 1048576 := by omega
    have HZ2 := Lib.hid (fun W hI => HZ2.out W hI)
    clear hz hr t0
    have be0 := Below.refl w.heap.size w
    have HZ2 := Lib.hid (HZ2.out w HI2.out)
    go_enter Try.func12, Try.ntmps12
    go_wp2_with (first | (go_at_call 17; refine (HZ.out _).mono ?_; rintro e w' ⟨rfl, rfl⟩) | (go_at_call 42; refine (HZ2.out).mono ?_; rintro e w' ⟨rfl, rfl⟩))
    refine (toDustingS_any A0 c0 xs0 w.heap.size _ (by omega) (HI.out.below be0) be0.size).mono ?_
    rintro e w1 ⟨rfl, ho1, hb1⟩
    have be1 := be0.trans (hb1.mono be0.size)
    have Hho1 := Lib.hid ho1
    clear ho1
    go_wp2_with fail
    refine (toInt64SS_any A1 c1 xs1 w.heap.size _ (by omega) HL.out (HI2.out.below be1) be1.size).mono ?_
    rintro e w2 ⟨rfl, hn2, hb2⟩
    have be2 := be1.trans (hb2.mono be1.size)
    have Hhn2 := Lib.hid hn2
    clear hn2
    go_wp2_with fail
    refine (ExposureOf_s _ _ xs0 _ _ xs1 _ (by omega) ((Hho1.out|>.later hb2 ).rows encD_len) (by omega) HL.out (Hhn2.out)).mono ?_
    rintro e w3 ⟨rfl, hb3⟩
    have be3 := be2.trans (hb3.mono be2.size)
    go_wp2_with fail
    refine (toDustingS_any A0 c0 xs0 w.heap.size _ (by omega) (HI.out.below be3) be3.size).mono ?_
    rintro e w4 ⟨rfl, ho4, hb4⟩
    have be4 := be3.trans (hb4.mono be3.size)
    have Hho4 := Lib.hid ho4
    clear ho4
    go_wp2_with fail
    refine (toInt64SS_any A1 c1 xs1 w.heap.size _ (by omega) HL.out (HI2.out.below be4) be4.size).mono ?_
    rintro e w5 ⟨rfl, hn5, hb5⟩
    have be5 := be4.trans (hb5.mono be4.size)
    have Hhn5 := Lib.hid hn5
    clear hn5
    go_wp2_with fail
    refine (ExposureOf_i _ _ xs0 _ _ xs1 _ (by omega) ((Hho4.out|>.later hb5 ).rows encD_len) (by omega) (Hhn5.out)).mono ?_
    rintro e w6 ⟨rfl, hb6⟩
    have be6 := be5.trans (hb6.mono be5.size)
    go_wp2_with fail
    refine (toDustingS_any A0 c0 xs0 w.heap.size _ (by omega) (HI.out.below be6) be6.size).mono ?_
    rintro e w7 ⟨rfl, ho7, hb7⟩
    have be7 := be6.trans (hb7.mono be6.size)
    have Hho7 := Lib.hid ho7
    clear ho7
    go_wp2_with fail
    refine (eqDustingS_yes _ _ _ _ xs0 _ _ _ (by omega) ((Hho4.out|>.later hb5 |>.later hb6 |>.later hb7 ).rows encD_len) ((Hho7.out).rows encD_len) (Nat.le_refl _) (Nat.le_refl _)).mono ?_
    rintro e w8 ⟨rfl, hb8⟩
    have be8 := be7.trans (hb8.mono be7.size)
    go_wp2_with fail
    refine (toInt64SS_any A1 c1 xs1 w.heap.size _ (by omega) HL.out (HI2.out.below be8) be8.size).mono ?_
    rintro e w9 ⟨rfl, hn9, hb9⟩
    have be9 := be8.trans (hb9.mono be8.size)
    have Hhn9 := Lib.hid hn9
    clear hn9
    go_wp2_with fail
    refine (eqInt64SS_yes _ _ _ _ xs1 _ _ _ (by omega) HL.out (Hhn5.out|>.later hb6 |>.later hb7 |>.later hb8 |>.later hb9 ) (Hhn9.out) (Nat.le_refl _) (Nat.le_refl _)).mono ?_
    rintro e w10 ⟨rfl, hb10⟩
    have be10 := be9.trans (hb10.mono be9.size)
    go_wp2_with fail
    go_ret
    exact ⟨rfl, be10⟩
  · have hr1 : r = -1 := by rw [← hr]; unfold szL; rw [if_neg hz]
    subst hr1
    have HZ2 := Lib.hid (HZ2.out w HI2.out)
    clear hz hr t0
    go_enter Try.func12, Try.ntmps12
    go_wp2_with (first | (go_at_call 17; refine (HZ.out _).mono ?_; rintro e w' ⟨rfl, rfl⟩) | (go_at_call 42; refine (HZ2.out).mono ?_; rintro e w' ⟨rfl, rfl⟩))
    go_ret
    exact ⟨rfl, Below.refl _ _⟩
end Go.Proofs.Ytmfbdngibbkciaa
