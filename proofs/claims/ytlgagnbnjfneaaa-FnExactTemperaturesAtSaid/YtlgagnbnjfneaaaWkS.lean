/- Walks in a mine: the reference's rounds as the plain ones. Conditions: the facts on memory and on lengths that each theorem names. -/
import Derived.Test.YtlgagnbnjfneaaaWkP
import Derived.Test.YtlgagnbnjfneaaaBools
import Derived.Test.YtlgagnbnjfneaaaFitW
import Derived.Test.YtlgagnbnjfneaaaPotF
namespace Go.Proofs.Ytlgagnbnjfneaaa
open Go.RowKit
open Pl
theorem wrnd_step {xs : List Aw} {G : Nat → Int} {k : Nat} {d D : List Int} {m : Bool} (hD : wrnd xs G k d = D) (hM : wmv xs G k d = m) (hne : aF xs k ≠ aT xs k) (hT : aT xs k < D.length) (hg : 0 ≤ G k) :
    (0 ≤ D.getD (aF xs k) 0 → (D.getD (aT xs k) 0 < 0 ∨ D.getD (aF xs k) 0 + G k < D.getD (aT xs k) 0) → wrnd xs G (k + 1) d = D.set (aT xs k) (D.getD (aF xs k) 0 + G k) ∧ wmv xs G (k + 1) d = true) ∧
    (¬ (0 ≤ D.getD (aF xs k) 0 ∧ (D.getD (aT xs k) 0 < 0 ∨ D.getD (aF xs k) 0 + G k < D.getD (aT xs k) 0)) → 0 ≤ D.getD (aT xs k) 0 → (D.getD (aF xs k) 0 < 0 ∨ D.getD (aT xs k) 0 + G k < D.getD (aF xs k) 0) → wrnd xs G (k + 1) d = D.set (aF xs k) (D.getD (aT xs k) 0 + G k) ∧ wmv xs G (k + 1) d = true) ∧
    (¬ (0 ≤ D.getD (aF xs k) 0 ∧ (D.getD (aT xs k) 0 < 0 ∨ D.getD (aF xs k) 0 + G k < D.getD (aT xs k) 0)) → ¬ (0 ≤ D.getD (aT xs k) 0 ∧ (D.getD (aF xs k) 0 < 0 ∨ D.getD (aT xs k) 0 + G k < D.getD (aF xs k) 0)) → wrnd xs G (k + 1) d = D ∧ wmv xs G (k + 1) d = m) := by
  have e1 : wrnd xs G (k + 1) d = wrl (aT xs k) (aF xs k) (G k) (wrl (aF xs k) (aT xs k) (G k) D) := by rw [← hD]; rfl
  have e2 : wmv xs G (k + 1) d = ((m || decide (wrC (aF xs k) (aT xs k) (G k) D)) || decide (wrC (aT xs k) (aF xs k) (G k) (wrl (aF xs k) (aT xs k) (G k) D))) := by rw [← hD, ← hM]; rfl
  refine ⟨fun h h2 => ?_, fun h h2 h3 => ?_, fun h h2 => ?_⟩
  · have hc : wrC (aF xs k) (aT xs k) (G k) D := ⟨h, h2⟩
    rw [e1, e2, wrl_yes hc, decide_eq_true hc]
    refine ⟨wrl_no ?_, by simp⟩
    rintro ⟨_, h4⟩
    rw [getD_set _ _ _ _ hT, getD_set _ _ _ _ hT, if_pos rfl, if_neg hne] at h4
    omega
  · have h' : ¬ wrC (aF xs k) (aT xs k) (G k) D := h
    rw [e1, e2, wrl_no h', decide_eq_false h']
    have hc : wrC (aT xs k) (aF xs k) (G k) D := ⟨h2, h3⟩
    rw [wrl_yes hc, decide_eq_true hc]
    exact ⟨rfl, by simp⟩
  · have h' : ¬ wrC (aF xs k) (aT xs k) (G k) D := h
    have h2' : ¬ wrC (aT xs k) (aF xs k) (G k) D := h2
    rw [e1, e2, wrl_no h', decide_eq_false h', wrl_no h2', decide_eq_false h2']
    exact ⟨rfl, by simp⟩
theorem l19Walk_w (b o : Nat) (l v : Int) (w : World) (h1 : 1 ≤ l) (h2 : l ≤ 10000) (h3 : 10 ≤ v) (h4 : v ≤ 300) (c3 : w.cell? ⟨b, o + 3, none⟩ = some (.int .i64 l)) :
    Calls Try.prog 98 #[.pointer (some ⟨b, o, none⟩), .int .i64 v] w fun e w' => e = .returned (.int .i64 (divU (100 * l) v)) ∧ w = w' := by
  unfold divU
  have q0 : 0 ≤ 100 * l + v - 1 := by omega
  go_enter Try.func98, Try.ntmps98
  go_wp2
  go_ret
  exact ⟨rfl, rfl⟩
set_option maxRecDepth 100000 in
set_option maxHeartbeats 3200000 in
theorem l20Walks_any (bm om : Nat) (N : Nat) (A : Option Addr) (cp : Nat) (xs : List Aw) (a : Nat) (v : Int) (w : World) (hI : Recs encA 7 w.heap.size w A xs) (hm : mineB (N : Int) xs = true) (ha : a < N) (hv1 : 10 ≤ v) (hv2 : v ≤ 300)
    (m0 : w.cell? ⟨bm, om, none⟩ = some (.int .i64 (N : Int))) (mm : w.cell? ⟨bm, om + 1, none⟩ = some (.slice A xs.length cp)) :
    Calls Try.prog 52 #[.pointer (some ⟨bm, om, none⟩), .int .i64 (a : Int), .int .i64 v] w fun e w' => ∃ u, e = .returned u ∧ Own w.heap.size w' u (walkL N xs a v) ∧ Below w.heap.size w w' := by
  obtain ⟨⟨n1, n2⟩, nx, _⟩ := mineB_bd hm
  obtain ⟨hE, hft⟩ := mineB_ends hm
  rw [Int.toNat_natCast] at hE
  obtain ⟨hWG, hlen⟩ := gw_bd hm hv1 hv2
  have HE := Lib.hid hE
  have HFT := Lib.hid hft
  have HNE := Lib.hid (fun k (hk : k < xs.length) => awOk_ne hm hk)
  have HWG := Lib.hid hWG
  have HLN := Lib.hid hlen
  have J0 := Lib.hid hI
  have hbm : bm < w.heap.size := World.block_lt_of_cell? _ _ m0
  have hN1 : 1 ≤ N := by omega
  have hN2 : N ≤ 16 := by omega
  have hxn : xs.length ≤ 24 := by omega
  obtain ⟨i0, hi, hz0, hz1, hz2⟩ := info_parts infoI
  have HF := Lib.hid (And.intro hi (And.intro hz0 (And.intro hz1 hz2)))
  have M0 := Lib.hid m0
  have M1 := Lib.hid mm
  clear hI hm hE hft hWG hlen n1 n2 nx hi hz0 hz1 hz2 m0 mm
  go_enter Try.func52, Try.ntmps52
  go_wp2
  go_loopw [7, 8] (fun u ii wr => ∃ q : Nat, q ≤ N ∧ ii = .int .i64 q ∧ Below w.heap.size w wr ∧ Own w.heap.size wr u (List.replicate q (-1))) (fun _ ii _ => N - (intOf ii).toNat)
  case atStart => exact ⟨0, Nat.zero_le _, rfl, (Below.refl _ _).alloc (Nat.le_refl _) _, Own.empty (Nat.le_refl _)⟩
  case round =>
    obtain ⟨q, hq, rfl, hb, ho⟩ := hrel
    have m0 := cell_later hb M0.out
    have m1 := cell_later hb M1.out
    have hsz := hb.size
    by_cases hlt : q < N
    · have HO := Lib.hid ho
      have hl : (List.replicate q (-1 : Int)).length ≤ 16 := by simp; omega
      have HS : Hid (List.replicate (q + 1) (-1 : Int) = List.replicate q (-1) ++ [-1]) := Lib.hid List.replicate_succ'
      clear ho
      go_wp2_with (at_builtin; refine wpList_append_own_at _ rfl _ _ 25 rfl w.heap.size 2 i0 (.int .i64 0) 1 8 Try.underlying25 HF.out.1 HF.out.2.1 HF.out.2.2.1 HF.out.2.2.2 rfl (by decide) _ _ _ rfl (HO.out.later ((Below.refl _ _).alloc (Nat.le_refl _) _)) ⟨wr.heap.size, 0, none⟩ 1 1 [.int .i64 (-1)] rfl rfl (cell_one_new _ _ _) (by intro u hu; simp at hu; subst hu; rfl) (le_max (by omega)) (by omega) (by simp; omega) ?_; intro av aw ah ag an aa)
      have hbe2 : Below w.heap.size w aw := Below.appended hb HO.out hsz ag
      have ho' := Own.appended ah
      clear ah ag an aa
      have HO3 := Lib.hid ho'
      clear ho'
      go_wp2
      go_roundw
      case rel => exact ⟨q + 1, by omega, by go_num, hbe2, by rw [HS.out]; exact HO3.out⟩
      case measure => simp [intOf]; omega
    · obtain rfl : q = N := by omega
      obtain ⟨AV, cv, hv, -, -⟩ := ho.slice
      rw [List.length_replicate] at hv
      subst hv
      obtain ⟨g, rfl, hg1, hrow⟩ := ho.row (n := q) (by omega) (by simp)
      have hgw := (World.ownsRow.lt hrow _ rfl).2
      have hco : wr.cell? ⟨g, a, none⟩ = some (.int .i64 (-1)) := by
        rw [World.ownsRow.cellAt hrow a (by omega), vals_get (by simp; omega)]
        simp
      have hfz : wr.frozen? ⟨g, a, none⟩ = false := World.ownsRow.frozenAt hrow a
      have HRow := Lib.hid hrow
      have hai : (a : Int) < q := by omega
      have ha0 : (0 : Int) ≤ (a : Int) := by omega
      have HBw := Lib.hid hb
      have HST : Hid ((List.replicate q (-1 : Int)).set a 0 = wstart q a) := Lib.hid rfl
      obtain ⟨wq, hwq⟩ : ∃ wq : World, wq = wr := ⟨_, rfl⟩
      subst hwq
      clear ho hrow
      go_wp2
      go_loopw [9] (fun kk wo => ∃ (r : Nat) (d : List Int), r ≤ q ∧ kk = .int .i64 r ∧ d = wrs xs (gw v xs) r (wstart q a) ∧ Below w.heap.size w wo ∧ wo.ownsRow w.heap.size 2 1 (.slice (some ⟨g, 0, none⟩) q cv) q (vals d)) (fun kk _ => q - (intOf kk).toNat)
      case atStart =>
        obtain ⟨r1, _⟩ := World.ownsRow.stored HRow.out a (.int .i64 0)
        rw [vals_set, HST.out] at r1
        exact ⟨0, _, Nat.zero_le _, rfl, rfl, HBw.out.setCell (by simpa using hg1) _, r1⟩
      case round =>
        obtain ⟨r, d, hr, rfl, hd, hb, hown⟩ := hrel
        have hdl : d.length = q := by rw [hd, wrs_len, wstart_len]
        have hdb : WBd (48 * r) d := by
          rw [hd]
          have hx := (wstart_bd q a).wrs HE.out HWG.out (wstart_len q a) r
          have : 2 * xs.length * r ≤ 48 * r := Nat.mul_le_mul_right r (by omega)
          exact hx.more (by omega)
        have HD := Lib.hid hdl
        have HDB := Lib.hid hdb
        have HDD := Lib.hid hd
        have HO := Lib.hid hown
        clear hdl hdb hd hown
        have m0 := cell_later hb M0.out
        have m1 := cell_later hb M1.out
        obtain ⟨wo, hwo⟩ : ∃ wo : World, wo = wr := ⟨_, rfl⟩
        subst hwo
        by_cases hlt : r < q
        · have hlti : (r : Int) < (q : Int) := by omega
          have hltb : decide ((r : Int) < (q : Int)) = true := decide_eq_true hlti
          go_wp2
          go_loopw [10] (fun ii wi => ∃ i : Nat, i ≤ xs.length ∧ ii = .int .i64 i ∧ Below w.heap.size w wi ∧ wi.ownsRow w.heap.size 2 1 (.slice (some ⟨g, 0, none⟩) q cv) q (vals (wrnd xs (gw v xs) i d))) (fun ii _ => xs.length - (intOf ii).toNat)
          case atStart => exact ⟨0, Nat.zero_le _, rfl, hb, HO.out⟩
          case round =>
            obtain ⟨i, hi, rfl, hbw, howni⟩ := hrel
            have m0 := cell_later hbw M0.out
            have m1 := cell_later hbw M1.out
            by_cases hil : i < xs.length
            · have hgw : g < wr.heap.size := (World.ownsRow.lt howni _ rfl).2
              obtain ⟨D, hDe⟩ : ∃ D, wrnd xs (gw v xs) i d = D := ⟨_, rfl⟩
              obtain ⟨m, hMe⟩ : ∃ m, wmv xs (gw v xs) i d = m := ⟨_, rfl⟩
              have hDl : D.length = q := by rw [← hDe]; exact (wrnd_len _ _).trans HD.out
              obtain ⟨hE1, hE2⟩ := HE.out i hil
              have hne := HNE.out i hil
              obtain ⟨g1, g2⟩ := HWG.out i hil
              obtain ⟨l1, l2⟩ := HLN.out i hil
              obtain ⟨sA, sC, sN⟩ := wrnd_step hDe hMe hne (by rw [hDl]; exact hE2) g1
              have hbD : WBd (48 * r + 2 * i) D := by rw [← hDe]; exact HDB.out.wrnd HE.out HWG.out HD.out i (by omega)
              obtain ⟨d1, d2⟩ := hbD (aF xs i)
              obtain ⟨d3, d4⟩ := hbD (aT xs i)
              obtain ⟨⟨s, f, t, l, c, rr, k⟩, hx⟩ : ∃ x, xs.getD i aNone = x := ⟨_, rfl⟩
              obtain ⟨b, o, hA, hab, -, c1, c2, c3, -⟩ := (J0.out.below hbw).cells7 hil hx
              cases hA
              obtain ⟨hf1, hf2⟩ := HFT.out i hil
              have hgl : gw v xs i = divU (100 * l) v := by unfold gw; rw [hx]
              rw [hx] at hf1 hf2 l1 l2
              have l1 : 1 ≤ l := l1
              have l2 : l ≤ 10000 := l2
              have hf1 : f = (aF xs i : Int) := hf1
              have hf2 : t = (aT xs i : Int) := hf2
              subst hf1 hf2
              rw [hDe] at howni
              have hcf : wr.cell? ⟨g, aF xs i, none⟩ = some (.int .i64 (D.getD (aF xs i) 0)) := by
                rw [World.ownsRow.cellAt howni _ (by omega), vals_get (by omega), getD_pt (by omega)]
              have hct : wr.cell? ⟨g, aT xs i, none⟩ = some (.int .i64 (D.getD (aT xs i) 0)) := by
                rw [World.ownsRow.cellAt howni _ (by omega), vals_get (by omega), getD_pt (by omega)]
              have hff : ∀ z, wr.frozen? ⟨g, z, none⟩ = false := fun z => World.ownsRow.frozenAt howni z
              have HW := Lib.hid (l19Walk_w b (o + i * 7) l v wr l1 l2 hv1 hv2 c3)
              rw [hgl] at sA sC sN g1 g2
              have HSA := Lib.hid sA
              have HSC := Lib.hid sC
              have HSN := Lib.hid sN
              have HOI := Lib.hid howni
              have hi0 : (0 : Int) ≤ (i : Int) := by omega
              have hi1 : (i : Int) < xs.length := by omega
              have hF0 : (0 : Int) ≤ (aF xs i : Int) := by omega
              have hF1 : (aF xs i : Int) < q := by omega
              have hT0 : (0 : Int) ≤ (aT xs i : Int) := by omega
              have hT1 : (aT xs i : Int) < q := by omega
              have hne' : ¬ aT xs i = aF xs i := fun e => hne e.symm
              have hbx : D.getD (aF xs i) 0 ≤ 2000000000 := by omega
              have hby : D.getD (aT xs i) 0 ≤ 2000000000 := by omega
              clear sA sC sN howni hDl hbD hx hE1 hE2 d2 d4 hgl hDe hMe c3
              generalize divU (100 * l) v = gg at *
              generalize D.getD (aF xs i) 0 = x at *
              generalize D.getD (aT xs i) 0 = y at *
              generalize aF xs i = F at *
              generalize aT xs i = T at *
              have k1 : ∀ n v z, ((wr.drewN n).setCell ⟨g, z, none⟩ v).cell? ⟨b, o + i * 7 + 1, none⟩ = some (.int .i64 (F : Int)) := fun n v z => (World.cell?_setCell_other _ _ _ _ (fun e => by have := congrArg Addr.block e; simp at this; omega)).trans c1
              have k2 : ∀ n v z, ((wr.drewN n).setCell ⟨g, z, none⟩ v).cell? ⟨b, o + i * 7 + 2, none⟩ = some (.int .i64 (T : Int)) := fun n v z => (World.cell?_setCell_other _ _ _ _ (fun e => by have := congrArg Addr.block e; simp at this; omega)).trans c2
              have hwx : IntKind.i64.wrap (x + gg) = x + gg := IntWalk.i64_in _ (by omega)
              have hwy : IntKind.i64.wrap (y + gg) = y + gg := IntWalk.i64_in _ (by omega)
              by_cases hx0 : 0 ≤ x
              · have hx0b : decide (0 ≤ x) = true := decide_eq_true hx0
                have hx1b : decide (x < 0) = false := decide_eq_false (by omega)
                by_cases hy0 : y < 0
                · have hy0b : decide (y < 0) = true := decide_eq_true hy0
                  obtain ⟨e1, -⟩ := HSA.out hx0 (.inl hy0)
                  have E1 := Lib.hid e1
                  have z1 : decide (0 ≤ x + gg) = true := decide_eq_true (by omega)
                  have hwz : IntKind.i64.wrap (x + gg + gg) = x + gg + gg := IntWalk.i64_in _ (by omega)
                  have z2 : decide (x + gg + gg < x) = false := decide_eq_false (by omega)
                  clear e1 HSA HSC HSN
                  go_wp2_with fail
                  refine HW.out.mono ?_
                  rintro e w' ⟨rfl, rfl⟩
                  go_wp2_with fail
                  go_quiet (fail)
                  go_wp2
                  go_region
                  go_wp2
                  go_quiet (fail)
                  go_wp2
                  go_roundw
                  case rel =>
                    refine ⟨i + 1, by omega, by go_num, ?_⟩
                    rw [E1.out]
                    exact fit_drew (fit_set (fit_drew ⟨hbw, HOI.out⟩ _) hg1 _ _) _
                  case measure => simp [intOf]; omega
                · have hy0b : decide (y < 0) = false := decide_eq_false hy0
                  have hy1b : decide (0 ≤ y) = true := decide_eq_true (by omega)
                  by_cases hc1 : x + gg < y
                  · have hc1b : decide (x + gg < y) = true := decide_eq_true hc1
                    obtain ⟨e1, -⟩ := HSA.out hx0 (.inr hc1)
                    have E1 := Lib.hid e1
                    have z1 : decide (0 ≤ x + gg) = true := decide_eq_true (by omega)
                    have hwz : IntKind.i64.wrap (x + gg + gg) = x + gg + gg := IntWalk.i64_in _ (by omega)
                    have z2 : decide (x + gg + gg < x) = false := decide_eq_false (by omega)
                    clear e1 HSA HSC HSN
                    go_wp2_with fail
                    refine HW.out.mono ?_
                    rintro e w' ⟨rfl, rfl⟩
                    go_wp2_with fail
                    go_quiet (fail)
                    go_wp2
                    go_region
                    go_wp2
                    go_quiet (fail)
                    go_wp2
                    go_roundw
                    case rel =>
                      refine ⟨i + 1, by omega, by go_num, ?_⟩
                      rw [E1.out]
                      exact fit_drew (fit_set (fit_drew ⟨hbw, HOI.out⟩ _) hg1 _ _) _
                    case measure => simp [intOf]; omega
                  · have hc1b : decide (x + gg < y) = false := decide_eq_false hc1
                    by_cases hc2 : y + gg < x
                    · have hc2b : decide (y + gg < x) = true := decide_eq_true hc2
                      obtain ⟨e1, -⟩ := HSC.out (by omega) (by omega) (.inr hc2)
                      have E1 := Lib.hid e1
                      clear e1 HSA HSC HSN
                      go_wp2_with fail
                      refine HW.out.mono ?_
                      rintro e w' ⟨rfl, rfl⟩
                      go_wp2_with fail
                      go_quiet (fail)
                      go_wp2
                      go_quiet (fail)
                      go_wp2
                      go_region
                      go_wp2
                      go_roundw
                      case rel =>
                        refine ⟨i + 1, by omega, by go_num, ?_⟩
                        rw [E1.out]
                        exact fit_set (fit_drew ⟨hbw, HOI.out⟩ _) hg1 _ _
                      case measure => simp [intOf]; omega
                    · have hc2b : decide (y + gg < x) = false := decide_eq_false hc2
                      obtain ⟨e1, -⟩ := HSN.out (by omega) (by omega)
                      have E1 := Lib.hid e1
                      clear e1 HSA HSC HSN
                      go_wp2_with fail
                      refine HW.out.mono ?_
                      rintro e w' ⟨rfl, rfl⟩
                      go_wp2_with fail
                      go_quiet (fail)
                      go_wp2
                      go_quiet (fail)
                      go_wp2
                      go_roundw
                      case rel =>
                        refine ⟨i + 1, by omega, by go_num, ?_⟩
                        rw [E1.out]
                        exact fit_drew ⟨hbw, HOI.out⟩ _
                      case measure => simp [intOf]; omega
              · have hx0b : decide (0 ≤ x) = false := decide_eq_false hx0
                have hx1b : decide (x < 0) = true := decide_eq_true (by omega)
                by_cases hy1 : 0 ≤ y
                · have hy1b : decide (0 ≤ y) = true := decide_eq_true hy1
                  obtain ⟨e1, -⟩ := HSC.out (by omega) hy1 (.inl (by omega))
                  have E1 := Lib.hid e1
                  clear e1 HSA HSC HSN
                  go_wp2_with fail
                  refine HW.out.mono ?_
                  rintro e w' ⟨rfl, rfl⟩
                  go_wp2_with fail
                  go_quiet (fail)
                  go_wp2
                  go_quiet (fail)
                  go_wp2
                  go_region
                  go_wp2
                  go_roundw
                  case rel =>
                    refine ⟨i + 1, by omega, by go_num, ?_⟩
                    rw [E1.out]
                    exact fit_set (fit_drew ⟨hbw, HOI.out⟩ _) hg1 _ _
                  case measure => simp [intOf]; omega
                · have hy1b : decide (0 ≤ y) = false := decide_eq_false hy1
                  obtain ⟨e1, -⟩ := HSN.out (by omega) (by omega)
                  have E1 := Lib.hid e1
                  clear e1 HSA HSC HSN
                  go_wp2_with fail
                  refine HW.out.mono ?_
                  rintro e w' ⟨rfl, rfl⟩
                  go_wp2_with fail
                  go_quiet (fail)
                  go_wp2
                  go_quiet (fail)
                  go_wp2
                  go_roundw
                  case rel =>
                    refine ⟨i + 1, by omega, by go_num, ?_⟩
                    rw [E1.out]
                    exact fit_drew ⟨hbw, HOI.out⟩ _
                  case measure => simp [intOf]; omega
            · obtain rfl : i = xs.length := by omega
              have HOI := Lib.hid howni
              clear howni
              go_wp2
              go_roundw
              case rel => exact ⟨r + 1, wrnd xs (gw v xs) xs.length d, by omega, by go_num, by rw [HDD.out]; rfl, hbw, HOI.out⟩
              case measure => simp [intOf]; omega
        · obtain rfl : r = q := by omega
          have HOO : Hid (Own w.heap.size wo (.slice (some ⟨g, 0, none⟩) r cv) (walkL r xs a v)) := Lib.hid (by
            have h := Own.of_row HO.out HD.out hg1
            rw [HDD.out] at h
            exact h)
          go_wp2
          go_ret
          exact ⟨_, rfl, HOO.out, hb⟩
theorem wtF_one {J : Int} {xs : List Aw} {a v : Int} (h : mineB J xs = false) : wtF J xs a v = ([], 1) := by unfold wtF; rw [h]; rfl
theorem wtF_two {J : Int} {xs : List Aw} {a v : Int} (h : mineB J xs = true) (h' : (inB a 0 (J - 1) && inB v 10 300) = false) : wtF J xs a v = ([], 2) := by unfold wtF; rw [h, h']; rfl
theorem wtF_yes {J : Int} {xs : List Aw} {a v : Int} (h : mineB J xs = true) (h1 : inB a 0 (J - 1) = true) (h2 : inB v 10 300 = true) : wtF J xs a v = (walkL J.toNat xs a.toNat v, 0) := by unfold wtF; rw [h, h1, h2]; rfl
theorem l20Speed_any (v : Int) (w : World) : Calls Try.prog 51 #[.int .i64 v] w fun e w' => e = .returned (.bool (inB v 10 300)) ∧ w = w' := by
  go_enter Try.func51, Try.ntmps51
  go_wp2_with (go_at_call 60; refine (l00In_any _ _ _ _).mono ?_; rintro e w' ⟨rfl, rfl⟩)
  go_ret
  exact ⟨rfl, rfl⟩
set_option maxRecDepth 100000 in
set_option maxHeartbeats 1600000 in
theorem WalkTimes_s (J : Int) (A : Option Addr) (cp : Nat) (xs : List Aw) (a v : Int) (w : World) (hx : (xs.length : Int) ≤ 1048576) (hF : FitsA xs) (hI : Recs encA 7 w.heap.size w A xs) (_ : -9223372036854775808 ≤ a ∧ a ≤ 9223372036854775807) (_ : -9223372036854775808 ≤ v ∧ v ≤ 9223372036854775807) :
    Calls Try.prog 20 #[.agg #[.int .i64 J, .slice A xs.length cp], .int .i64 a, .int .i64 v] w fun e w' => ∃ u, e = .returned (.tuple #[u, .int .i64 (wtF J xs a v).2]) ∧ Own w.heap.size w' u (wtF J xs a v).1 ∧ Below w.heap.size w w' := by
  obtain ⟨R, hR⟩ : ∃ R, R = wtF J xs a v := ⟨_, rfl⟩
  rw [← hR]
  have HR := Lib.hid hR
  clear hR
  have be0 : Below w.heap.size w (w.alloc (.cells #[.int .i64 J, .slice A xs.length cp] 31)) := by go_grown
  have m0 : (w.alloc (.cells #[.int .i64 J, .slice A xs.length cp] 31)).cell? ⟨w.heap.size, 0, none⟩ = some (.int .i64 J) := by go_simp
  have m1 : (w.alloc (.cells #[.int .i64 J, .slice A xs.length cp] 31)).cell? ⟨w.heap.size, 1, none⟩ = some (.slice A xs.length cp) := by go_simp
  have HV := Lib.hid (l04Ok_any w.heap.size 0 J A cp xs w.heap.size _ (by omega) hF (hI.below be0) m0 m1)
  have hm0 : ∀ n, ((w.alloc (.cells #[.int .i64 J, .slice A xs.length cp] 31)).drewN n).cell? ⟨w.heap.size, 0, none⟩ = some (.int .i64 J) := fun n => m0
  have hm1 : ∀ n, ((w.alloc (.cells #[.int .i64 J, .slice A xs.length cp] 31)).drewN n).cell? ⟨w.heap.size, 0 + 1, none⟩ = some (.slice A xs.length cp) := fun n => m1
  have HM0 := Lib.hid hm0
  have HM1 := Lib.hid hm1
  have J0 := Lib.hid hI
  clear m0 m1 hm0 hm1 hI hF
  cases hm : mineB J xs
  · have HG := Lib.hid (wtF_one (a := a) (v := v) hm)
    rw [hm] at HV
    clear hm
    go_enter Try.func20, Try.ntmps20
    go_wp2_with fail
    refine HV.out.mono ?_
    rintro e _ ⟨rfl, n, rfl⟩
    have be1 := below_drewN be0 n
    go_wp2_with fail
    go_ret2
    exact ⟨_, ret_vi (by rw [HR.out, HG.out]), by rw [HR.out, HG.out]; exact Own.nil_ _ _, be1⟩
  rw [hm] at HV
  obtain ⟨⟨j1, j2⟩, _, _⟩ := mineB_bd hm
  have HMB := Lib.hid hm
  cases h1 : inB a 0 (J - 1)
  · have HG := Lib.hid (wtF_two (a := a) (v := v) hm (by rw [h1]; rfl))
    have HJ := Lib.hid (fun (W : World) (c0 : W.cell? ⟨w.heap.size, 0, none⟩ = some (.int .i64 J)) => eqb (l04Junction_any w.heap.size 0 J a W j1 j2 c0) h1)
    clear hm h1
    go_enter Try.func20, Try.ntmps20
    go_wp2_with fail
    refine HV.out.mono ?_
    rintro e _ ⟨rfl, n, rfl⟩
    have be1 := below_drewN be0 n
    have c0 := HM0.out n
    go_wp2_with (go_at_call 50; refine (HJ.out _ (HM0.out _)).mono ?_; rintro e w' ⟨rfl, rfl⟩)
    go_ret2
    exact ⟨_, ret_vi (by rw [HR.out, HG.out]), by rw [HR.out, HG.out]; exact Own.nil_ _ _, be1⟩
  have HJ := Lib.hid (fun (W : World) (c0 : W.cell? ⟨w.heap.size, 0, none⟩ = some (.int .i64 J)) => eqb (l04Junction_any w.heap.size 0 J a W j1 j2 c0) h1)
  cases h2 : inB v 10 300
  · have HG := Lib.hid (wtF_two (a := a) (v := v) hm (by rw [h1, h2]; rfl))
    have HS := Lib.hid (fun (W : World) => eqb (l20Speed_any v W) h2)
    clear hm h1 h2
    go_enter Try.func20, Try.ntmps20
    go_wp2_with fail
    refine HV.out.mono ?_
    rintro e _ ⟨rfl, n, rfl⟩
    have be1 := below_drewN be0 n
    go_wp2_with (first | (go_at_call 50; refine (HJ.out _ (HM0.out _)).mono ?_; rintro e w' ⟨rfl, rfl⟩) | (go_at_call 51; refine (HS.out _).mono ?_; rintro e w' ⟨rfl, rfl⟩))
    go_ret2
    exact ⟨_, ret_vi (by rw [HR.out, HG.out]), by rw [HR.out, HG.out]; exact Own.nil_ _ _, be1⟩
  have HS := Lib.hid (fun (W : World) => eqb (l20Speed_any v W) h2)
  obtain ⟨a1, a2⟩ := inB_iff.1 h1
  obtain ⟨v1, v2⟩ := inB_iff.1 h2
  obtain ⟨N, rfl⟩ := mineB_nat hm
  obtain ⟨k, rfl⟩ := Int.eq_ofNat_of_zero_le a1
  have HG := Lib.hid (wtF_yes hm h1 h2)
  rw [Int.toNat_natCast, Int.toNat_natCast] at HG
  have HW := Lib.hid (fun n => l20Walks_any w.heap.size 0 N A cp xs k v ((w.alloc (.cells #[.int .i64 (N : Int), .slice A xs.length cp] 31)).drewN n) ((J0.out.below (below_drewN be0 n)).more (below_drewN be0 n).size) HMB.out (by omega) v1 v2 (HM0.out n) (HM1.out n))
  clear hm h1 h2
  go_enter Try.func20, Try.ntmps20
  go_wp2_with fail
  refine HV.out.mono ?_
  rintro e _ ⟨rfl, n, rfl⟩
  have be1 := below_drewN be0 n
  go_wp2_with (first | (go_at_call 50; refine (HJ.out _ (HM0.out _)).mono ?_; rintro e w' ⟨rfl, rfl⟩) | (go_at_call 51; refine (HS.out _).mono ?_; rintro e w' ⟨rfl, rfl⟩))
  refine (HW.out _).mono ?_
  rintro e w1 ⟨u, rfl, ho, hb1⟩
  have HO := Lib.hid ho
  clear ho
  go_wp2_with fail
  go_ret2
  refine ⟨_, ret_vi (by rw [HR.out, HG.out]), ?_, be1.trans (hb1.mono be1.size)⟩
  rw [HR.out, HG.out]
  exact HO.out.base (fun g h => by have := (World.ownsRow.lt HO.out g h).1; have := be1.size; omega)
end Go.Proofs.Ytlgagnbnjfneaaa
