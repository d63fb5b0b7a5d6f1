/- Proved here: the parts SolS, Fire, Tab, FireM of the row's proof, joined by a program. Conditions: as each part says. -/
import Derived.Test.YtejkoicgbgoiaaaGreatFm9
import Derived.Deep.RegionHeld3
/- Flows: flows whose meshes have small errors, by the reference. Conditions: the facts on memory and on lengths that each theorem names. -/
namespace Go.Proofs.YtejkoicgbgoiaaaGreat
open Go.RowKit
open Pl
/-- What is known of a network, when its flows are solved. -/
structure NetOk (N : Nat) (xs : List Aw) (rs : List Int) (fs : List Fa) (dr st : List Int) : Prop where
  mine : mineB (N : Int) xs = true
  fans : FansOk xs.length fs
  res : rs.length = xs.length ∧ ∀ i, i < xs.length → 1 ≤ rs.getD i 0 ∧ rs.getD i 0 ≤ 1000000
  dra : dr.length = xs.length ∧ ∀ i, i < xs.length → -100000 ≤ dr.getD i 0 ∧ dr.getD i 0 ≤ 100000
  sta : st.length = xs.length ∧ ∀ i, i < xs.length → -100000 ≤ st.getD i 0 ∧ st.getD i 0 ≤ 100000
set_option maxRecDepth 100000 in
set_option maxHeartbeats 6400000 in
theorem l07Solve_any (bm om : Nat) (N : Nat) (A : Option Addr) (cp : Nat) (xs : List Aw) (AR : Option Addr) (cr : Nat) (rs : List Int) (AF : Option Addr) (cf : Nat) (fs : List Fa) (AD : Option Addr) (cd : Nat) (dr : List Int) (AS : Option Addr) (cs : Nat) (st : List Int) (tol rds : Int) (w : World) (hnet : NetOk N xs rs fs dr st) (_ : 0 ≤ tol) (_ : tol ≤ 100000) (rds0 : 0 ≤ rds) (rds1 : rds ≤ 500) (hI : Recs encA 7 w.heap.size w A xs) (hR : Ints w.heap.size w AR rs) (hF : Fns w.heap.size w AF fs) (hD : Ints w.heap.size w AD dr) (hS : Ints w.heap.size w AS st)
    (m0 : w.cell? ⟨bm, om, none⟩ = some (.int .i64 (N : Int))) (mm : w.cell? ⟨bm, om + 1, none⟩ = some (.slice A xs.length cp)) :
    Calls Tryz.prog 81 #[.pointer (some ⟨bm, om, none⟩), .slice AR rs.length cr, .slice AF fs.length cf, .slice AD dr.length cd, .slice AS st.length cs, .int .i64 tol, .int .i64 rds] w fun e w' => ∃ u, e = .returned (.tuple #[u, .int .i64 (solveR rs dr fs (meshesF N xs) tol rds.toNat st).2.1, .int .i64 (solveR rs dr fs (meshesF N xs) tol rds.toNat st).2.2]) ∧ Own w.heap.size w' u (solveR rs dr fs (meshesF N xs) tol rds.toNat st).1 ∧ Below w.heap.size w w' := by
  obtain ⟨R, hRR⟩ : ∃ R, R = solveR rs dr fs (meshesF N xs) tol rds.toNat st := ⟨_, rfl⟩
  rw [← hRR]
  have HG := Lib.hid hRR
  obtain ⟨⟨n1, n2⟩, nxx, _⟩ := mineB_bd hnet.mine
  have hN2 : N ≤ 16 := by omega
  have hx24 : xs.length ≤ 24 := by omega
  have HFO := Lib.hid hnet.fans
  have HSY := Lib.hid (And.intro hnet.res (And.intro hnet.dra hnet.sta))
  have HMO := Lib.hid (meshes_ok hN2 hx24)
  have CM := Lib.hid (l04Meshes_any bm om N A cp xs w hI hnet.mine m0 mm)
  have GR := Lib.hid hR
  have GF := Lib.hid hF
  have GD := Lib.hid hD
  have GS := Lib.hid hS
  have hml : (meshesF N xs).length ≤ 24 := HMO.out.few
  have hrl : rs.length ≤ 24 := by have := HSY.out.1.1; omega
  have hdl : dr.length ≤ 24 := by have := HSY.out.2.1.1; omega
  have hsl : st.length ≤ 24 := by have := HSY.out.2.2.1; omega
  have hbm : bm < w.heap.size := World.block_lt_of_cell? _ _ m0
  have K1 := Lib.hid mm
  clear hI hR hF hD hS hRR hnet n1 n2 nxx m0 mm
  go_enter Tryz.func81, Tryz.ntmps81
  go_wp2_with fail
  refine CM.out.mono ?_
  rintro e wm ⟨vm, vs, rfl, hom, hbm1⟩
  obtain ⟨AM, cm, rfl, hnl⟩ := hom.slice
  have CO := Lib.hid (l00Own_gen AS cs st w.heap.size wm (by omega) (GS.out.below hbm1))
  have HOM := Lib.hid hom
  clear hnl hom CM
  go_wp2_with fail
  refine CO.out.mono ?_
  rintro e wc ⟨vf, rfl, hof, hbc⟩
  obtain ⟨AV, cv, hv, -, -⟩ := hof.slice
  rw [HSY.out.2.2.1] at hv
  subst hv
  have HSOL : Hid (Sol w wc AV cv xs.length st AM (meshesF N xs)) := Lib.hid ⟨hbm1.trans (hbc.mono hbm1.size), hof.base (fun g hg => Nat.le_trans hbm1.size (World.ownsRow.lt hof g hg).1), OwnN.nestA HOM.out hbc (fun g hg => (World.ownsRow.lt hof g hg).1), HSY.out.2.2.1, HSY.out.2.2.2⟩
  clear hof HOM CO hbc
  generalize meshesF N xs = ms at *
  go_wp2_with fail
  go_loopw [19] (fun ss wr => ∃ (n : Nat) (fl : List Int), (n : Int) ≤ rds ∧ ss = .int .i64 n ∧ Sol w wr AV cv xs.length fl AM ms ∧ R = solveR rs dr fs ms tol (rds - n).toNat fl) (fun ss _ => (rds - intOf ss).toNat)
  case atStart => exact ⟨0, st, by omega, rfl, HSOL.out, by rw [HG.out]; simp⟩
  case round =>
    clear HSOL HG
    obtain ⟨n, fl, hn, rfl, hsol, hR⟩ := hrel
    have HRr := Lib.hid hR
    have hbw : Below w.heap.size w wr := hsol.below
    have hP := l07Pushes_any xs.length AF cf fs AD cd dr AV cv fl wr.heap.size wr (Nat.le_refl _) ((GF.out.below hbw).more hbw.size) ((GD.out.below hbw).more hbw.size) hsol.ints HFO.out hx24 HSY.out.2.1.1 hsol.len HSY.out.2.1.2 hsol.bd
    rw [hsol.len] at hP
    have HP := Lib.hid hP
    have HSL := Lib.hid hsol
    clear hP hR hsol
    go_wp2_with fail
    refine HP.out.mono ?_
    rintro e w2 ⟨v2, rfl, ho2, hb2⟩
    obtain ⟨AP, cq, rfl, -, -⟩ := ho2.slice
    have hbw2 := hbw.trans (hb2.mono hbw.size)
    have HS2 := Lib.hid (HSL.out.later hb2)
    have hsys := sys_ok HFO.out HSY.out.1 HSY.out.2.1 HSL.out.len HSL.out.bd
    have hE := l07Errors_any xs.length AM cm ms AR cr rs AP cq (pushF fs fl dr) AV cv fl w2 HS2.out.nest.nest ((GR.out.below hbw2).more hbw2.size) ho2.ints HS2.out.ints hsys HMO.out hx24
    rw [HSL.out.len] at hE
    have HE := Lib.hid hE
    have HEB := Lib.hid (fun k hk => errsL_bd hsys HMO.out (k := k) hk)
    have hel : (errsL rs (pushF fs fl dr) fl ms).length ≤ 24 := by rw [errsL_length]; exact hml
    have HEL : Hid ((errsL rs (pushF fs fl dr) fl ms).length = ms.length) := Lib.hid (errsL_length _ _ _ _)
    have hpl : (pushF fs fl dr).length ≤ 24 := by rw [pushF_length]; exact hdl
    clear hE hsys ho2 HP
    go_wp2_with fail
    refine HE.out.mono ?_
    rintro e w3 ⟨v3, rfl, ho3, hb3⟩
    obtain ⟨AE, ce, rfl, hie, -⟩ := ho3.slice
    have hbw3 := hbw2.trans (hb3.mono hbw2.size)
    have HS3 := Lib.hid (HS2.out.later hb3)
    have HWO := Lib.hid (l07Worst_any AE ce _ _ w3 (by omega) hie (fun k hk => HEB.out k (by rw [← HEL.out]; exact hk)))
    have HY1 := Lib.hid (fun (h : worstL (errsL rs (pushF fs fl dr) fl ms) ≤ tol) => HRr.out.trans (solveR_yes h _))
    have HY2 := Lib.hid (fun (h : tol < worstL (errsL rs (pushF fs fl dr) fl ms)) (hnr : (n : Int) = rds) => HRr.out.trans ((congrArg (fun x => solveR rs dr fs ms tol x fl) (show (rds - n).toNat = 0 by omega)).trans (solveR_full (Int.not_le.2 h))))
    have HY3 := Lib.hid (fun (h : tol < worstL (errsL rs (pushF fs fl dr) fl ms)) (hnr : (n : Int) < rds) (hp : passK rs dr fs ms fl = none) => HRr.out.trans ((congrArg (fun x => solveR rs dr fs ms tol x fl) (show (rds - n).toNat = (rds - (n + 1 : Nat)).toNat + 1 by omega)).trans (solveR_bad (Int.not_le.2 h) hp)))
    have HY4 := Lib.hid (fun (h : tol < worstL (errsL rs (pushF fs fl dr) fl ms)) (hnr : (n : Int) < rds) (fl' : List Int) (hp : passK rs dr fs ms fl = some fl') => HRr.out.trans ((congrArg (fun x => solveR rs dr fs ms tol x fl) (show (rds - n).toNat = (rds - (n + 1 : Nat)).toNat + 1 by omega)).trans (solveR_go (Int.not_le.2 h) hp)))
    clear ho3 hie HE HS2 HRr HSL HEB
    generalize worstL (errsL rs (pushF fs fl dr) fl ms) = x at *
    go_wp2_with fail
    refine HWO.out.mono ?_
    rintro e w3' ⟨rfl, rfl⟩
    by_cases hxt : x ≤ tol
    · have HZ := Lib.hid (HY1.out hxt)
      clear HY1 HY2 HY3 HY4
      go_wp2
      go_ret3
      refine ⟨_, ret_v3 (by rw [HZ.out]), ?_, hbw3⟩
      rw [HZ.out]
      exact HS3.out.own
    by_cases hnr : (n : Int) = rds
    · have HZ := Lib.hid (HY2.out (by omega) hnr)
      have hnb : ((n : Int) == rds) = true := by rw [beq_iff_eq]; exact hnr
      clear HY1 HY2 HY3 HY4 hnr
      go_wp2
      go_ret3
      refine ⟨.slice none 0 0, ret_v3 (by rw [HZ.out]), ?_, hbw3⟩
      rw [HZ.out]; exact Own.nil_ _ _
    have hnb : ((n : Int) == rds) = false := by rw [beq_eq_false_iff_ne]; exact hnr
    have HZ3 := Lib.hid (HY3.out (by omega) (by omega))
    have HZ4 := Lib.hid (HY4.out (by omega) (by omega))
    clear HY1 HY2 HY3 HY4 HWO
    go_wp2_with fail
    go_loopw [21] (fun jj wx => ∃ (k : Nat) (fl' : List Int), k ≤ ms.length ∧ jj = .int .i64 k ∧ Sol w wx AV cv xs.length fl' AM ms ∧ passK rs dr fs (ms.drop k) fl' = passK rs dr fs ms fl) (fun jj _ => ms.length - (intOf jj).toNat)
    case atStart => exact ⟨0, fl, Nat.zero_le _, rfl, HS3.out, rfl⟩
    case round =>
      obtain ⟨k, fl', hk, rfl, hsol, hpass⟩ := hrel
      by_cases hlt : k < ms.length
      · obtain ⟨hwk, hw0, hw1⟩ := HMO.out.each k hlt
        have hnx : 0 < xs.length := by have := (hwk 0 hw0).2.1; omega
        obtain ⟨b, o, A', c', rfl, hc, hiw, hap⟩ := hsol.nest.at_ hlt
        obtain ⟨g, rfl, hg1, -⟩ := hsol.own.row (n := xs.length) hnx hsol.len
        have hbw4 : Below w.heap.size w wr := hsol.below
        have HP := Lib.hid (fun (W : World) (hW : Below wr.heap.size wr W) => by
          have hP := l07Pushes_any xs.length AF cf fs AD cd dr (some ⟨g, 0, none⟩) cv fl' W.heap.size W (Nat.le_refl _) (((GF.out.below hbw4).more hbw4.size).later hW) (((GD.out.below hbw4).more hbw4.size |>.below hW).more hW.size) ((hsol.ints.below hW).more hW.size) HFO.out hx24 HSY.out.2.1.1 hsol.len HSY.out.2.1.2 hsol.bd
          rw [hsol.len] at hP
          exact hP)
        have HSL := Lib.hid hsol
        have HIW := Lib.hid hiw
        have HAP := Lib.hid (fun ad (h : A' = some ad) (e : ad.block = g) => hap ad h (congrArg some e))
        have HWK := Lib.hid hwk
        have HQP := Lib.hid (passK_drop (rs := rs) (dr := dr) (fs := fs) (ms := ms) (fl := fl') hlt)
        have HPS := Lib.hid hpass
        have j0 : (0 : Int) ≤ (k : Int) := by omega
        have j1 : (k : Int) < ms.length := by omega
        have hsys := sys_ok HFO.out HSY.out.1 HSY.out.2.1 hsol.len hsol.bd
        have HT := Lib.hid (fun (W : World) (AQ : Option Addr) (cq' : Nat) (hW : Below wr.heap.size wr W) (hQ : Ints W.heap.size W AQ (pushF fs fl' dr)) => by
          have hT := l07Step_any xs.length A' c' (ms.getD k []) AR cr rs AQ cq' (pushF fs fl' dr) (some ⟨g, 0, none⟩) cv fl' W.heap.size W ((hiw.below hW).more hW.size) (((GR.out.below hbw4).more hbw4.size |>.below hW).more hW.size) hQ ((hsol.ints.below hW).more hW.size) hsys hwk hx24 hw1 hw0
          rw [hsol.len] at hT
          exact hT)
        have hqb := stepW_bd rs (pushF fs fl' dr) fl' (ms.getD k [])
        clear hsol hiw hap hwk hpass hsys
        generalize ms.getD k [] = wk at *
        generalize stepW rs (pushF fs fl' dr) fl' wk = q at *
        go_wp2_with fail
        go_region_held3 (fun w' => w'.cell? ⟨b, o + k, none⟩ = some (.slice A' wk.length c'))
          (first
            | go_keep
            | exact cell_later hb45 hc)
          (first
            | (go_at_call 112; refine (HP.out _ (by first | exact (Below.refl _ _).drew | exact Below.refl _ _)).mono ?_; rintro e w4 ⟨v4, rfl, ho4, hb4⟩; obtain ⟨AQ, cq', rfl, hiq, -⟩ := ho4.slice; have hb45 : Below wr.heap.size wr w4 := (Below.refl wr.heap.size wr).drew.trans (hb4.mono (Nat.le_refl _)))
            | (go_at_call 113; refine (HT.out _ _ _ hb45 hiq).mono ?_; rintro e w5 ⟨rfl, nd, rfl⟩))
        have hbz : Below wr.heap.size wr (w4.drewN nd) := below_drewN hb45 nd
        have hc5 := cell_later hbz hc
        have HS5 := Lib.hid (HSL.out.later hbz)
        have HIW5 := Lib.hid ((HIW.out.below hbz).more hbz.size)
        clear hb45 hb4 ho4 hiq HT HP HSL HIW hc hbz
        generalize w4.drewN nd = w5 at *
        obtain ⟨g', hge, hg2, hrow⟩ := HS5.out.own.row (n := xs.length) hnx HS5.out.len
        injection hge with hge
        injection hge with hge
        subst hge
        have hA := l07Add_any xs.length g cv w.heap.size fl' A' c' wk q w5.heap.size w5 hrow HS5.out.len HIW5.out HAP.out HS5.out.bd hqb HWK.out hx24 hw1
        have HA := Lib.hid hA
        clear hA hrow HIW5
        go_wp2_with fail
        refine HA.out.mono ?_
        rintro e w6 ⟨rfl, hrow6, hg6⟩
        have hab := addK_bd HS5.out.len HS5.out.bd hqb HWK.out wk.length (Nat.le_refl _)
        have hal : (addW fl' wk q).length = xs.length := (addK_length _ _ _ _).trans HS5.out.len
        have hbg6 : Below w.heap.size w w6 := HS5.out.below.grown hg6 HS5.out.below.size (fun j hj => by injection hj with hj; omega)
        have k16 := cell_later hbg6 K1.out
        have hH := l07Flows_any bm om A cp xs.length (some ⟨g, 0, none⟩) cv (addW fl' wk q) w6.heap.size w6 (by omega) (by omega) (Own.of_row hrow6 hal hg1).ints k16
        rw [hal, decide_eq_true (rfl : (xs.length : Int) = xs.length), Bool.true_and] at hH
        have HH := Lib.hid hH
        have HST : Hid (flowsB (addW fl' wk q) = true → Sol w w6 (some ⟨g, 0, none⟩) cv xs.length (addW fl' wk q) (some ⟨b, o, none⟩) ms) := Lib.hid (fun h => HS5.out.stored hg6 hrow6 hal (fun i hi => by
          unfold flowsB at h
          rw [allIn_up, allUp_iff] at h
          exact inB_iff.1 (h i (by omega))))
        have HFB : Hid (flowsB (addW fl' wk q) = allIn (addW fl' wk q) (-100000) 100000) := Lib.hid rfl
        rw [HFB.out] at HQP HST
        clear hab hH hrow6 hg6 HA HS5 hal HFB
        generalize addW fl' wk q = fl2 at *
        go_wp2_with fail
        refine HH.out.mono ?_
        rintro e w7 ⟨rfl, nd7, rfl⟩
        cases hfb : allIn fl2 (-100000) 100000
        · have HZ := Lib.hid (HZ3.out (by rw [← HPS.out, HQP.out, hfb]; rfl))
          clear hfb
          go_wp2_with fail
          go_ret3
          refine ⟨.slice none 0 0, ret_v3 (by rw [HZ.out]), ?_, below_drewN hbg6 _⟩
          rw [HZ.out]; exact Own.nil_ _ _
        · have HS7 := Lib.hid ((HST.out hfb).later (below_drewN (Below.refl _ _) nd7))
          have HP7 : Hid (passK rs dr fs (ms.drop (k + 1)) fl2 = passK rs dr fs ms fl) := Lib.hid (by rw [← HPS.out, HQP.out, hfb]; rfl)
          clear hfb
          go_wp2_with fail
          go_roundw
          case rel => exact ⟨k + 1, fl2, by omega, by go_num, HS7.out, HP7.out⟩
          case measure => simp [intOf]; omega
      · obtain rfl : k = ms.length := by omega
        have HZ := Lib.hid (HZ4.out fl' (by rw [← hpass, passK_end]))
        have HSX := Lib.hid hsol
        clear hsol hpass
        go_wp2_with fail
        go_roundw
        case rel => exact ⟨n + 1, fl', by omega, by go_num, HSX.out, HZ.out⟩
        case measure => simp [intOf]; omega
set_option maxRecDepth 100000 in
set_option maxHeartbeats 6400000 in
theorem SolveFlows_s (J : Int) (A : Option Addr) (cp : Nat) (xs : List Aw) (AR : Option Addr) (cr : Nat) (rs : List Int) (AF : Option Addr) (cf : Nat) (fs : List Fa) (AD : Option Addr) (cd : Nat) (dr : List Int) (AS : Option Addr) (cs : Nat) (st : List Int) (tol rds : Int) (w : World) (hxl : (xs.length : Int) ≤ 1048576) (hrl : rs.length ≤ 1048576) (hfl : fs.length ≤ 1048576) (hdl : dr.length ≤ 1048576) (hsl : st.length ≤ 1048576) (fX : FitsA xs) (fF : FitsF fs) (lF : FansLen fs) (hI : Recs encA 7 w.heap.size w A xs) (hR : Ints w.heap.size w AR rs) (hF : Fns w.heap.size w AF fs) (hD : Ints w.heap.size w AD dr) (hS : Ints w.heap.size w AS st) :
    Calls Tryz.prog 89 #[.agg #[.int .i64 J, .slice A xs.length cp], .slice AR rs.length cr, .slice AF fs.length cf, .slice AD dr.length cd, .slice AS st.length cs, .int .i64 tol, .int .i64 rds] w fun e w' => ∃ u, e = .returned (.tuple #[u, .int .i64 (solveF J xs rs fs dr st tol rds).2.1, .int .i64 (solveF J xs rs fs dr st tol rds).2.2]) ∧ Own w.heap.size w' u (solveF J xs rs fs dr st tol rds).1 ∧ Below w.heap.size w w' := by
  obtain ⟨R, hRR⟩ : ∃ R, R = solveF J xs rs fs dr st tol rds := ⟨_, rfl⟩
  rw [← hRR]
  have HR := Lib.hid hRR
  have be0 : Below w.heap.size w (w.alloc (.cells #[.int .i64 J, .slice A xs.length cp] 33)) := by go_grown
  have k0 : ((w.alloc (.cells #[.int .i64 J, .slice A xs.length cp] 33))).cell? ⟨w.heap.size, 0, none⟩ = some (.int .i64 J) := by go_simp
  have k1 : ((w.alloc (.cells #[.int .i64 J, .slice A xs.length cp] 33))).cell? ⟨w.heap.size, 1, none⟩ = some (.slice A xs.length cp) := by go_simp
  have GI := Lib.hid ((hI.below be0).more be0.size)
  have GR := Lib.hid ((hR.below be0).more be0.size)
  have GF := Lib.hid ((hF.below be0).more be0.size)
  have GD := Lib.hid ((hD.below be0).more be0.size)
  have GS := Lib.hid ((hS.below be0).more be0.size)
  have FX := Lib.hid fX
  have FF := Lib.hid fF
  have LF := Lib.hid lF
  clear hI hR hF hD hS fX fF lF hRR
  go_enter Tryz.func89, Tryz.ntmps89
  go_wp2_with fail
  generalize (w.alloc (.cells #[.int .i64 J, .slice A xs.length cp] 33)) = w0 at *
  have bd : ∀ n, Below w0.heap.size w0 (w0.drewN n) := fun n => below_drewN (Below.refl _ _) n
  have BD := Lib.hid bd
  have K0 := Lib.hid k0
  have K1 := Lib.hid k1
  clear bd
  refine (l04Ok_any w.heap.size 0 J A cp xs w0.heap.size _ (by omega) FX.out GI.out K0.out K1.out).mono ?_
  rintro e w1 ⟨rfl, d1, rfl⟩
  cases h1 : mineB J xs
  · have HG : Hid (R = ([], 0, 1)) := Lib.hid (by rw [HR.out]; unfold solveF; rw [h1]; rfl)
    clear h1
    go_wp2_with fail
    go_ret3
    refine ⟨.slice none 0 0, ret_v3 (by rw [HG.out]), ?_, below_drewN be0 _⟩
    rw [HG.out]; exact Own.nil_ _ _
  have H1 := Lib.hid h1
  clear h1
  go_wp2_with fail
  refine (l06List_any AF cf fs w0.heap.size _ (by omega) FF.out LF.out (GF.out.below (BD.out d1))).mono ?_
  rintro e w2 ⟨rfl, d2, rfl⟩
  cases h2 : fansB fs
  · have HG : Hid (R = ([], 0, 1)) := Lib.hid (by rw [HR.out]; unfold solveF; rw [H1.out, h2]; rfl)
    clear h2
    go_wp2_with fail
    go_ret3
    refine ⟨.slice none 0 0, ret_v3 (by rw [HG.out]), ?_, below_drewN be0 _⟩
    rw [HG.out]; exact Own.nil_ _ _
  have H2 := Lib.hid h2
  clear h2
  cases h3 : inB tol 0 100000
  · have HG : Hid (R = ([], 0, 2)) := Lib.hid (by rw [HR.out]; unfold solveF; rw [H1.out, H2.out, h3]; rfl)
    go_wp2_with (go_at_call 67; refine (l00In_any _ _ _ _).mono ?_; rintro e w' ⟨rfl, rfl⟩)
    go_ret3
    refine ⟨.slice none 0 0, ret_v3 (by rw [HG.out]), ?_, below_drewN be0 _⟩
    rw [HG.out]; exact Own.nil_ _ _
  cases h4 : inB rds 0 500
  · have HG : Hid (R = ([], 0, 2)) := Lib.hid (by rw [HR.out]; unfold solveF; rw [H1.out, H2.out, h3, h4]; rfl)
    go_wp2_with (go_at_call 67; refine (l00In_any _ _ _ _).mono ?_; rintro e w' ⟨rfl, rfl⟩)
    go_ret3
    refine ⟨.slice none 0 0, ret_v3 (by rw [HG.out]), ?_, below_drewN be0 _⟩
    rw [HG.out]; exact Own.nil_ _ _
  go_wp2_with (go_at_call 67; refine (l00In_any _ _ _ _).mono ?_; rintro e w' ⟨rfl, rfl⟩)
  have H3 := Lib.hid h3
  have H4 := Lib.hid h4
  obtain ⟨tol0, tol1⟩ := inB_iff.1 h3
  obtain ⟨rds0, rds1⟩ := inB_iff.1 h4
  clear h3 h4
  have HSE : Hid (sysB xs.length rs dr st = (lstN xs.length rs 1 1000000 && (lstN xs.length dr (-100000) 100000 && lstN xs.length st (-100000) 100000))) := Lib.hid rfl
  have HL1 : Hid (lstN xs.length rs 1 1000000 = (decide ((rs.length : Int) = xs.length) && allIn rs 1 1000000)) := Lib.hid rfl
  have HL2 : Hid (lstN xs.length dr (-100000) 100000 = (decide ((dr.length : Int) = xs.length) && allIn dr (-100000) 100000)) := Lib.hid rfl
  have HL3 : Hid (lstN xs.length st (-100000) 100000 = (decide ((st.length : Int) = xs.length) && allIn st (-100000) 100000)) := Lib.hid rfl
  have HF7 : Hid ((sysB xs.length rs dr st && hasFB xs.length fs) = false → R = ([], 0, 7)) := Lib.hid (fun h => by rw [HR.out]; unfold solveF; rw [H1.out, H2.out, H3.out, H4.out, h]; rfl)
  refine (l07Res_any w.heap.size 0 A cp xs.length AR cr rs w0.heap.size _ (by omega) (by omega) (GR.out.below (BD.out _)) (cell_later (BD.out _) K1.out)).mono ?_
  rintro e w3 ⟨rfl, d3, rfl⟩
  rw [← HL1.out]
  cases h5 : lstN xs.length rs 1 1000000
  · have HG := Lib.hid (HF7.out (by rw [HSE.out, h5]; rfl))
    clear h5
    go_wp2_with fail
    go_ret3
    refine ⟨.slice none 0 0, ret_v3 (by rw [HG.out]), ?_, below_drewN be0 _⟩
    rw [HG.out]; exact Own.nil_ _ _
  have H5 := Lib.hid h5
  clear h5
  go_wp2_with fail
  refine (l07Fans_any w.heap.size 0 A cp xs.length AF cf fs w0.heap.size _ (by omega) (fans_aw H2.out) (by omega) (GF.out.below (BD.out _)) (cell_later (BD.out _) K1.out)).mono ?_
  rintro e w4 ⟨rfl, d4, rfl⟩
  cases h6 : hasFB xs.length fs
  · have HG := Lib.hid (HF7.out (by rw [h6, Bool.and_false]))
    clear h6
    go_wp2_with fail
    go_ret3
    refine ⟨.slice none 0 0, ret_v3 (by rw [HG.out]), ?_, below_drewN be0 _⟩
    rw [HG.out]; exact Own.nil_ _ _
  have H6 := Lib.hid h6
  clear h6
  go_wp2_with fail
  refine (l07Pressures_any w.heap.size 0 A cp xs.length AD cd dr w0.heap.size _ (by omega) (by omega) (GD.out.below (BD.out _)) (cell_later (BD.out _) K1.out)).mono ?_
  rintro e w5 ⟨rfl, d5, rfl⟩
  rw [← HL2.out]
  cases h7 : lstN xs.length dr (-100000) 100000
  · have HG := Lib.hid (HF7.out (by rw [HSE.out, H5.out, h7]; rfl))
    clear h7
    go_wp2_with fail
    go_ret3
    refine ⟨.slice none 0 0, ret_v3 (by rw [HG.out]), ?_, below_drewN be0 _⟩
    rw [HG.out]; exact Own.nil_ _ _
  have H7 := Lib.hid h7
  clear h7
  go_wp2_with fail
  refine (l07Flows_any w.heap.size 0 A cp xs.length AS cs st w0.heap.size _ (by omega) (by omega) (GS.out.below (BD.out _)) (cell_later (BD.out _) K1.out)).mono ?_
  rintro e w6 ⟨rfl, d6, rfl⟩
  rw [← HL3.out]
  cases h8 : lstN xs.length st (-100000) 100000
  · have HG := Lib.hid (HF7.out (by rw [HSE.out, H5.out, H7.out, h8]; rfl))
    clear h8
    go_wp2_with fail
    go_ret3
    refine ⟨.slice none 0 0, ret_v3 (by rw [HG.out]), ?_, below_drewN be0 _⟩
    rw [HG.out]; exact Own.nil_ _ _
  have H8 := Lib.hid h8
  clear h8
  have HSB : Hid (sysB xs.length rs dr st = true) := Lib.hid (by rw [HSE.out, H5.out, H7.out, H8.out]; rfl)
  obtain ⟨N, rfl⟩ : ∃ N : Nat, J = (N : Int) := ⟨J.toNat, by have := (mineB_bd H1.out).1; omega⟩
  have HNET : Hid (NetOk N xs rs fs dr st) := Lib.hid ⟨H1.out, fans_ok H2.out H6.out, lstN_iff.1 H5.out, lstN_iff.1 H7.out, lstN_iff.1 H8.out⟩
  obtain ⟨⟨n1, n2⟩, nxx, _⟩ := mineB_bd H1.out
  have HNE : Hid (∀ i, i < xs.length → (xs.getD i aNone).f ≠ (xs.getD i aNone).t) := Lib.hid (fun i hi => by
    obtain ⟨F, T, hF, hT, _, _, hne⟩ := mine_ends H1.out hi
    rw [hF, hT]; omega)
  go_wp2_with fail
  refine (l07Balanced_any w.heap.size 0 N A cp xs AS cs st w0.heap.size _ (by omega) (by omega) (GI.out.below (BD.out _)) (GS.out.below (BD.out _)) HNET.out.sta.1 HNET.out.sta.2 HNE.out (cell_later (BD.out _) K0.out) (cell_later (BD.out _) K1.out)).mono ?_
  rintro e w7 ⟨rfl, rfl⟩
  cases h9 : balB N xs st
  · have HG : Hid (R = ([], 0, 6)) := Lib.hid (by rw [HR.out]; unfold solveF; rw [H1.out, H2.out, H3.out, H4.out, HSB.out, H6.out, Int.toNat_natCast, h9]; rfl)
    clear h9
    go_wp2_with fail
    go_ret3
    refine ⟨.slice none 0 0, ret_v3 (by rw [HG.out]), ?_, below_drewN be0 _⟩
    rw [HG.out]; exact Own.nil_ _ _
  have HG : Hid (R = solveR rs dr fs (meshesF N xs) tol rds.toNat st) := Lib.hid (by rw [HR.out]; unfold solveF; rw [H1.out, H2.out, H3.out, H4.out, HSB.out, H6.out, Int.toNat_natCast, h9]; rfl)
  clear h9
  go_wp2_with fail
  refine (l07Solve_any w.heap.size 0 N A cp xs AR cr rs AF cf fs AD cd dr AS cs st tol rds _ HNET.out tol0 tol1 rds0 rds1 ((GI.out.below (BD.out _)).more (BD.out _).size) ((GR.out.below (BD.out _)).more (BD.out _).size) ((GF.out.below (BD.out _)).more (BD.out _).size) ((GD.out.below (BD.out _)).more (BD.out _).size) ((GS.out.below (BD.out _)).more (BD.out _).size) (cell_later (BD.out _) K0.out) (cell_later (BD.out _) K1.out)).mono ?_
  rw [← HG.out]
  rintro e w8 ⟨u, rfl, ho, hb8⟩
  have HO := Lib.hid ho
  clear ho
  go_wp2_with fail
  go_ret3
  exact ⟨u, rfl, HO.out.base (fun g hg => Nat.le_trans be0.size (World.ownsRow.lt HO.out g hg).1), (below_drewN be0 _).trans (hb8.mono be0.size)⟩
end Go.Proofs.YtejkoicgbgoiaaaGreat

/- Fires: the flows with a fire, by the program and by the reference. Conditions: the facts on memory and on lengths that each theorem names. -/
namespace Go.Proofs.YtejkoicgbgoiaaaGreat
open Go.RowKit
open Pl
/-- The code of what is asked of a fire. -/
noncomputable def baseF (J : Int) (xs : List Aw) (rs : List Int) (fs : List Fa) (dr st : List Int) (tol rds aw am : Int) : Int :=
  if (mineB J xs && fansB fs) = true then
    if (inB tol 0 100000 && (inB rds 0 500 && (inB aw 0 ((xs.length : Int) - 1) && inB am 0 100000))) = true then
      if ((sysB xs.length rs dr st && hasFB xs.length fs) && decide (dr.getD aw.toNat 0 + am ≤ 100000)) = true then 0 else 7
    else 2
  else 1
def moreF (dr : List Int) (aw am : Int) : List Int := dr.set aw.toNat (dr.getD aw.toNat 0 + am)
/-- The flows with a fire, the greatest error, a code. -/
noncomputable def fireF (J : Int) (xs : List Aw) (rs : List Int) (fs : List Fa) (dr st : List Int) (tol rds aw am : Int) : List Int × Int × Int :=
  if baseF J xs rs fs dr st tol rds aw am = 0 then solveF J xs rs fs (moreF dr aw am) st tol rds else ([], 0, baseF J xs rs fs dr st tol rds aw am)
theorem fireF_bad {J : Int} {xs : List Aw} {rs : List Int} {fs : List Fa} {dr st : List Int} {tol rds aw am c : Int} (h : baseF J xs rs fs dr st tol rds aw am = c) (hc : c ≠ 0) : fireF J xs rs fs dr st tol rds aw am = ([], 0, c) := by
  unfold fireF; rw [h, if_neg hc]
theorem more_ok {n : Nat} {dr : List Int} {a : Nat} {am : Int} (h : lstN n dr (-100000) 100000 = true) (ha : a < n) (h0 : 0 ≤ am) (h1 : dr.getD a 0 + am ≤ 100000) : lstN n (moreF dr (a : Int) am) (-100000) 100000 = true := by
  obtain ⟨h2, h3⟩ := lstN_iff.1 h
  unfold moreF
  rw [Int.toNat_natCast]
  refine lstN_iff.2 ⟨by rw [List.length_set]; exact h2, fun i hi => ?_⟩
  rw [getD_set _ _ _ _ (by omega)]
  have := h3 a ha
  have := h3 i hi
  split <;> omega
theorem fireF_solve {J : Int} {xs : List Aw} {rs : List Int} {fs : List Fa} {dr st : List Int} {tol rds am : Int} {a : Nat} (h1 : mineB J xs = true) (h2 : fansB fs = true) (h3 : inB tol 0 100000 = true) (h4 : inB rds 0 500 = true) (h5 : a < xs.length) (h6 : inB am 0 100000 = true)
    (h7 : lstN xs.length dr (-100000) 100000 = true) (h8 : dr.getD a 0 + am ≤ 100000) : fireF J xs rs fs dr st tol rds (a : Int) am = solveF J xs rs fs (moreF dr (a : Int) am) st tol rds := by
  have hm := more_ok h7 h5 (inB_iff.1 h6).1 h8
  have h5' : inB (a : Int) 0 ((xs.length : Int) - 1) = true := inB_iff.2 (by omega)
  have hb : baseF J xs rs fs dr st tol rds (a : Int) am = if (sysB xs.length rs dr st && hasFB xs.length fs) = true then 0 else 7 := by
    unfold baseF
    rw [h1, h2, h3, h4, h5', h6, Int.toNat_natCast, decide_eq_true h8]
    simp only [Bool.and_self, Bool.and_true, if_true]
  unfold fireF
  rw [hb]
  by_cases h : (sysB xs.length rs dr st && hasFB xs.length fs) = true
  · rw [if_pos h, if_pos rfl]
  · rw [if_neg h, if_neg (by omega)]
    have e : (sysB xs.length rs (moreF dr (a : Int) am) st && hasFB xs.length fs) = false := by
      have : (sysB xs.length rs dr st && hasFB xs.length fs) = (sysB xs.length rs (moreF dr (a : Int) am) st && hasFB xs.length fs) := by
        unfold sysB; rw [h7, hm]
      rw [← this]
      simpa using h
    unfold solveF
    rw [h1, h2, h3, h4, e]
    rfl
set_option maxRecDepth 100000 in
set_option maxHeartbeats 6400000 in
theorem FlowsWithFire_i (J : Int) (A : Option Addr) (cp : Nat) (xs : List Aw) (AR : Option Addr) (cr : Nat) (rs : List Int) (AF : Option Addr) (cf : Nat) (fs : List Fa) (AD : Option Addr) (cd : Nat) (dr : List Int) (AS : Option Addr) (cs : Nat) (st : List Int) (tol rds : Int) (aw am : Int) (w : World) (hxl : (xs.length : Int) ≤ 1048576) (hrl : rs.length ≤ 1048576) (hfl : fs.length ≤ 1048576) (hdl : dr.length ≤ 1048576) (hsl : st.length ≤ 1048576) (fX : FitsA xs) (fR : Fits rs) (fF : FitsF fs) (lF : FansLen fs) (fD : Fits dr) (fS : Fits st) (hI : Recs encA 7 w.heap.size w A xs) (hR : Ints w.heap.size w AR rs) (hF : Fns w.heap.size w AF fs) (hD : Ints w.heap.size w AD dr) (hS : Ints w.heap.size w AS st) :
    Calls Tryz.prog 33 #[.agg #[.int .i64 J, .slice A xs.length cp], .slice AR rs.length cr, .slice AF fs.length cf, .slice AD dr.length cd, .slice AS st.length cs, .int .i64 tol, .int .i64 rds, .int .i64 aw, .int .i64 am] w fun e w' => ∃ u, e = .returned (.tuple #[u, .int .i64 (fireF J xs rs fs dr st tol rds aw am).2.1, .int .i64 (fireF J xs rs fs dr st tol rds aw am).2.2]) ∧ Own w.heap.size w' u (fireF J xs rs fs dr st tol rds aw am).1 ∧ Below w.heap.size w w' := by
  obtain ⟨R, hRR⟩ : ∃ R, R = fireF J xs rs fs dr st tol rds aw am := ⟨_, rfl⟩
  rw [← hRR]
  have HR := Lib.hid hRR
  have C1 := Lib.hid (fun (W : World) (hb : Below w.heap.size w W) => ValidMine_i J A cp xs w.heap.size W (by omega) fX (hI.below hb) hb.size)
  have C2 := Lib.hid (fun (W : World) (hb : Below w.heap.size w W) => ValidFans_i AF cf fs w.heap.size W (by omega) fF lF (hF.below hb) hb.size)
  have C3 := Lib.hid (fun (W : World) (hb : Below w.heap.size w W) => hasList_any J A cp xs AD cd dr (-100000) 100000 w.heap.size W (by omega) (by omega) (hD.below hb) hb.size fD)
  have C5 := Lib.hid (fun (W : World) (hb : Below w.heap.size w W) => Clone_any AD cd dr w.heap.size W hdl (hD.below hb))
  have GD := Lib.hid hD
  have C6 := Lib.hid (fun (AD' : Option Addr) (cd' : Nat) (dr' : List Int) (W : World) (hb : Below w.heap.size w W) (h1 : dr'.length ≤ 1048576) (h2 : Fits dr') (h3 : Ints W.heap.size W AD' dr') => SolveFlows_i J A cp xs AR cr rs AF cf fs AD' cd' dr' AS cs st tol rds W hxl hrl hfl h1 hsl fX fR fF lF h2 fS ((hI.below hb).more hb.size) ((hR.below hb).more hb.size) ((hF.below hb).more hb.size) h3 ((hS.below hb).more hb.size))
  have be0 : Below w.heap.size w (w.alloc (.cells #[.int .i64 J, .slice A xs.length cp] 33)) := by go_grown
  have k0 : ((w.alloc (.cells #[.int .i64 J, .slice A xs.length cp] 33))).cell? ⟨w.heap.size, 0, none⟩ = some (.int .i64 J) := by go_simp
  have k1 : ((w.alloc (.cells #[.int .i64 J, .slice A xs.length cp] 33))).cell? ⟨w.heap.size, 1, none⟩ = some (.slice A xs.length cp) := by go_simp
  clear hI hR hF hD hS fX fR fF lF fD fS hRR
  go_enter Tryz.func33, Tryz.ntmps33
  go_wp2_with fail
  generalize (w.alloc (.cells #[.int .i64 J, .slice A xs.length cp] 33)) = w0 at *
  refine (C1.out _ be0).mono ?_
  rintro e w1 ⟨rfl, hb1⟩
  have k01 := cell_later hb1 k0
  have k11 := cell_later hb1 k1
  have be1 := be0.trans (hb1.mono be0.size)
  cases h1 : mineB J xs
  · have HG : Hid (R = ([], 0, 1)) := Lib.hid (by rw [HR.out]; exact fireF_bad (by unfold baseF; rw [h1]; rfl) (by decide))
    clear h1
    go_wp2_with fail
    go_ret3
    refine ⟨.slice none 0 0, ret_v3 (by rw [HG.out]), ?_, be1⟩
    rw [HG.out]; exact Own.nil_ _ _
  have H1 := Lib.hid h1
  clear h1 k0 k1 hb1
  go_wp2_with fail
  refine (C2.out _ be1).mono ?_
  rintro e w2 ⟨rfl, hb2⟩
  have k02 := cell_later hb2 k01
  have k12 := cell_later hb2 k11
  have be2 := be1.trans (hb2.mono be1.size)
  cases h2 : fansB fs
  · have HG : Hid (R = ([], 0, 1)) := Lib.hid (by rw [HR.out]; exact fireF_bad (by unfold baseF; rw [H1.out, h2]; rfl) (by decide))
    clear h2
    go_wp2_with fail
    go_ret3
    refine ⟨.slice none 0 0, ret_v3 (by rw [HG.out]), ?_, be2⟩
    rw [HG.out]; exact Own.nil_ _ _
  have H2 := Lib.hid h2
  clear h2 k01 k11 hb2
  cases h3 : inB tol 0 100000
  · have HG : Hid (R = ([], 0, 2)) := Lib.hid (by rw [HR.out]; exact fireF_bad (by unfold baseF; rw [H1.out, H2.out, h3]; rfl) (by decide))
    go_wp2_with (first | (go_at_call 43; refine (within_any _ _ _ _).mono ?_; rintro e w' ⟨rfl, rfl⟩) | (go_at_call 61; refine (indexValidA_any _ _ _ _ _ (by omega)).mono ?_; rintro e w' ⟨rfl, rfl⟩))
    go_ret3
    refine ⟨.slice none 0 0, ret_v3 (by rw [HG.out]), ?_, be2⟩
    rw [HG.out]; exact Own.nil_ _ _
  cases h4 : inB rds 0 500
  · have HG : Hid (R = ([], 0, 2)) := Lib.hid (by rw [HR.out]; exact fireF_bad (by unfold baseF; rw [H1.out, H2.out, h3, h4]; rfl) (by decide))
    go_wp2_with (first | (go_at_call 43; refine (within_any _ _ _ _).mono ?_; rintro e w' ⟨rfl, rfl⟩) | (go_at_call 61; refine (indexValidA_any _ _ _ _ _ (by omega)).mono ?_; rintro e w' ⟨rfl, rfl⟩))
    go_ret3
    refine ⟨.slice none 0 0, ret_v3 (by rw [HG.out]), ?_, be2⟩
    rw [HG.out]; exact Own.nil_ _ _
  cases h5 : inB aw 0 ((xs.length : Int) - 1)
  · have HG : Hid (R = ([], 0, 2)) := Lib.hid (by rw [HR.out]; exact fireF_bad (by unfold baseF; rw [H1.out, H2.out, h3, h4, h5]; rfl) (by decide))
    go_wp2_with (first | (go_at_call 43; refine (within_any _ _ _ _).mono ?_; rintro e w' ⟨rfl, rfl⟩) | (go_at_call 61; refine (indexValidA_any _ _ _ _ _ (by omega)).mono ?_; rintro e w' ⟨rfl, rfl⟩))
    go_ret3
    refine ⟨.slice none 0 0, ret_v3 (by rw [HG.out]), ?_, be2⟩
    rw [HG.out]; exact Own.nil_ _ _
  cases h6 : inB am 0 100000
  · have HG : Hid (R = ([], 0, 2)) := Lib.hid (by rw [HR.out]; exact fireF_bad (by unfold baseF; rw [H1.out, H2.out, h3, h4, h5, h6]; rfl) (by decide))
    go_wp2_with (first | (go_at_call 43; refine (within_any _ _ _ _).mono ?_; rintro e w' ⟨rfl, rfl⟩) | (go_at_call 61; refine (indexValidA_any _ _ _ _ _ (by omega)).mono ?_; rintro e w' ⟨rfl, rfl⟩))
    go_ret3
    refine ⟨.slice none 0 0, ret_v3 (by rw [HG.out]), ?_, be2⟩
    rw [HG.out]; exact Own.nil_ _ _
  go_wp2_with (first | (go_at_call 43; refine (within_any _ _ _ _).mono ?_; rintro e w' ⟨rfl, rfl⟩) | (go_at_call 61; refine (indexValidA_any _ _ _ _ _ (by omega)).mono ?_; rintro e w' ⟨rfl, rfl⟩))
  have H3 := Lib.hid h3
  have H4 := Lib.hid h4
  have H5 := Lib.hid h5
  have H6 := Lib.hid h6
  obtain ⟨aw0, aw1⟩ := inB_iff.1 h5
  obtain ⟨am0, am1⟩ := inB_iff.1 h6
  clear h3 h4 h5 h6
  obtain ⟨a, rfl⟩ : ∃ a : Nat, aw = (a : Int) := ⟨aw.toNat, by omega⟩
  have hax : a < xs.length := by omega
  have HL2 : Hid (lstN xs.length dr (-100000) 100000 = (decide ((dr.length : Int) = xs.length) && allIn dr (-100000) 100000)) := Lib.hid rfl
  have HF7 : Hid (((sysB xs.length rs dr st && hasFB xs.length fs) && decide (dr.getD a 0 + am ≤ 100000)) = false → R = ([], 0, 7)) := Lib.hid (fun h => by rw [HR.out]; exact fireF_bad (by unfold baseF; rw [H1.out, H2.out, H3.out, H4.out, H5.out, H6.out, Int.toNat_natCast, h]; rfl) (by decide))
  have HSE : Hid (sysB xs.length rs dr st = (lstN xs.length rs 1 1000000 && (lstN xs.length dr (-100000) 100000 && lstN xs.length st (-100000) 100000))) := Lib.hid rfl
  refine (C3.out _ be2).mono ?_
  rintro e w3 ⟨rfl, hb3⟩
  have k03 := cell_later hb3 k02
  have k13 := cell_later hb3 k12
  have be3 := be2.trans (hb3.mono be2.size)
  rw [← HL2.out]
  cases h7 : lstN xs.length dr (-100000) 100000
  · have HG := Lib.hid (HF7.out (by rw [HSE.out, h7, Bool.false_and, Bool.and_false, Bool.false_and, Bool.false_and]))
    clear h7
    go_wp2_with fail
    go_ret3
    refine ⟨.slice none 0 0, ret_v3 (by rw [HG.out]), ?_, be3⟩
    rw [HG.out]; exact Own.nil_ _ _
  have H7 := Lib.hid h7
  obtain ⟨hdx, hdb⟩ := lstN_iff.1 h7
  have hxb := hdb a hax
  have HDX := Lib.hid hdx
  have HDB := Lib.hid hdb
  obtain ⟨add, rfl, hda, hdc⟩ := (GD.out.below be3).atD (k := a) (by omega)
  have ad1 : (a : Int) < dr.length := by omega
  clear h7 hdx hdb hb3 k02 k12
  have HFS := Lib.hid (fun (h8 : dr.getD a 0 + am ≤ 100000) => HR.out.trans (fireF_solve (J := J) (rs := rs) (st := st) H1.out H2.out H3.out H4.out hax H6.out H7.out h8))
  have HMO := Lib.hid (fun (h8 : dr.getD a 0 + am ≤ 100000) => more_ok H7.out hax am0 h8)
  have HME : Hid (moreF dr (a : Int) am = dr.set a (dr.getD a 0 + am)) := Lib.hid (by unfold moreF; rw [Int.toNat_natCast])
  generalize hx : dr.getD a 0 = x at *
  have HX := Lib.hid hx
  clear hx
  by_cases h8 : x + am ≤ 100000
  rotate_left
  · have HG := Lib.hid (HF7.out (by rw [decide_eq_false h8, Bool.and_false]))
    go_wp2_with fail
    go_ret3
    refine ⟨.slice none 0 0, ret_v3 (by rw [HG.out]), ?_, be3⟩
    rw [HG.out]; exact Own.nil_ _ _
  have HG := Lib.hid (HFS.out h8)
  have HM := Lib.hid (HMO.out h8)
  clear HFS HMO
  go_wp2_with fail
  refine (C5.out _ be3).mono ?_
  rintro e w4 ⟨v4, rfl, ho4, hb4⟩
  have k04 := cell_later hb4 k03
  have k14 := cell_later hb4 k13
  have be4 := be3.trans (hb4.mono be3.size)
  obtain ⟨AV, cv, hv, -, -⟩ := ho4.slice
  subst hv
  obtain ⟨g, rfl, hg1, hrow⟩ := ho4.row (n := dr.length) (by omega) rfl
  have hca := row_cell hrow rfl (i := a) (by omega)
  rw [HX.out] at hca
  have hfr := row_free hrow a
  have hbk : w.heap.size < w3.heap.size := World.block_lt_of_cell? _ _ k03
  have be5 : Below w.heap.size w (w4.setCell ⟨g, a, none⟩ (.int .i64 (x + am))) := be4.setCell (by have := be3.size; simp; omega) _
  have k05 : (w4.setCell ⟨g, a, none⟩ (.int .i64 (x + am))).cell? ⟨w.heap.size, 0, none⟩ = some (.int .i64 J) := cell_apart k04 (by simp; omega)
  have k15 : (w4.setCell ⟨g, a, none⟩ (.int .i64 (x + am))).cell? ⟨w.heap.size, 1, none⟩ = some (.slice A xs.length cp) := cell_apart k14 (by simp; omega)
  obtain ⟨r1, _⟩ := World.ownsRow.stored hrow a (.int .i64 (x + am))
  rw [vals_set] at r1
  have hints := (Own.of_row (b := w3.heap.size) r1 (List.length_set ..) hg1).ints
  rw [HME.out] at HM HG
  obtain ⟨hm1, hm2⟩ := lstN_iff.1 HM.out
  have hS := C6.out (some ⟨g, 0, none⟩) cv (dr.set a (x + am)) _ be5 (by rw [List.length_set]; exact hdl) (fits_of hm1 (fun i hi => by have := hm2 i hi; omega)) hints
  rw [List.length_set, ← HG.out] at hS
  have HS := Lib.hid hS
  clear hS hints r1 hrow ho4 hm1 hm2 HM HG hb4
  go_wp2_with fail
  generalize w4.setCell ⟨g, a, none⟩ (.int .i64 (x + am)) = w5 at *
  refine HS.out.mono ?_
  rintro e w6 ⟨u, rfl, ho6, hb6⟩
  have HO := Lib.hid ho6
  clear ho6
  go_wp2_with fail
  go_ret3
  exact ⟨u, rfl, HO.out.base (fun g hg => Nat.le_trans be5.size (World.ownsRow.lt HO.out g hg).1), be5.trans (hb6.mono be5.size)⟩
set_option maxRecDepth 100000 in
set_option maxHeartbeats 3200000 in
theorem l18Base_any (bm om : Nat) (J : Int) (A : Option Addr) (cp : Nat) (xs : List Aw) (AR : Option Addr) (cr : Nat) (rs : List Int) (AF : Option Addr) (cf : Nat) (fs : List Fa) (AD : Option Addr) (cd : Nat) (dr : List Int) (AS : Option Addr) (cs : Nat) (st : List Int) (tol rds : Int) (aw am : Int) (B : Nat) (w : World) (hxl : (xs.length : Int) ≤ 1048576) (hrl : rs.length ≤ 1048576) (hfl : fs.length ≤ 1048576) (hdl : dr.length ≤ 1048576) (hsl : st.length ≤ 1048576) (fX : FitsA xs) (fF : FitsF fs) (lF : FansLen fs) (hI : Recs encA 7 B w A xs) (hR : Ints B w AR rs) (hF : Fns B w AF fs) (hD : Ints B w AD dr) (hS : Ints B w AS st) (hB : B ≤ w.heap.size)
    (m0 : w.cell? ⟨bm, om, none⟩ = some (.int .i64 J)) (mm : w.cell? ⟨bm, om + 1, none⟩ = some (.slice A xs.length cp)) :
    Calls Tryz.prog 66 #[.pointer (some ⟨bm, om, none⟩), .slice AR rs.length cr, .slice AF fs.length cf, .slice AD dr.length cd, .slice AS st.length cs, .int .i64 tol, .int .i64 rds, .int .i64 aw, .int .i64 am] w fun e w' => e = .returned (.int .i64 (baseF J xs rs fs dr st tol rds aw am)) ∧ ∃ n, w.drewN n = w' := by
  obtain ⟨R, hRR⟩ : ∃ R, R = baseF J xs rs fs dr st tol rds aw am := ⟨_, rfl⟩
  rw [← hRR]
  have HR := Lib.hid hRR
  have GI := Lib.hid (hI.more hB)
  have GR := Lib.hid (hR.more hB)
  have GF := Lib.hid (hF.more hB)
  have GD := Lib.hid (hD.more hB)
  have GS := Lib.hid (hS.more hB)
  have FX := Lib.hid fX
  have FF := Lib.hid fF
  have LF := Lib.hid lF
  have K0 := Lib.hid m0
  have K1 := Lib.hid mm
  have BD := Lib.hid (fun n => below_drewN (Below.refl w.heap.size w) n)
  clear hI hR hF hD hS fX fF lF hRR hB
  go_enter Tryz.func66, Tryz.ntmps66
  go_wp2_with fail
  refine (l04Ok_any bm om J A cp xs w.heap.size _ (by omega) FX.out GI.out K0.out K1.out).mono ?_
  rintro e w1 ⟨rfl, d1, rfl⟩
  cases h1 : mineB J xs
  · have HG : Hid (R = 1) := Lib.hid (by rw [HR.out]; unfold baseF; rw [h1]; rfl)
    clear h1
    go_wp2_with fail
    go_ret
    exact ⟨ret_int (by rw [HG.out]), _, rfl⟩
  have H1 := Lib.hid h1
  clear h1
  go_wp2_with fail
  refine (l06List_any AF cf fs w.heap.size _ (by omega) FF.out LF.out (GF.out.below (BD.out d1))).mono ?_
  rintro e w2 ⟨rfl, d2, rfl⟩
  cases h2 : fansB fs
  · have HG : Hid (R = 1) := Lib.hid (by rw [HR.out]; unfold baseF; rw [H1.out, h2]; rfl)
    clear h2
    go_wp2_with fail
    go_ret
    exact ⟨ret_int (by rw [HG.out]), _, rfl⟩
  have H2 := Lib.hid h2
  clear h2
  cases h3 : inB tol 0 100000
  · have HG : Hid (R = 2) := Lib.hid (by rw [HR.out]; unfold baseF; rw [H1.out, H2.out, h3]; rfl)
    go_wp2_with (go_at_call 67; refine (l00In_any _ _ _ _).mono ?_; rintro e w' ⟨rfl, rfl⟩)
    go_ret
    exact ⟨ret_int (by rw [HG.out]), _, rfl⟩
  cases h4 : inB rds 0 500
  · have HG : Hid (R = 2) := Lib.hid (by rw [HR.out]; unfold baseF; rw [H1.out, H2.out, h3, h4]; rfl)
    go_wp2_with (go_at_call 67; refine (l00In_any _ _ _ _).mono ?_; rintro e w' ⟨rfl, rfl⟩)
    go_ret
    exact ⟨ret_int (by rw [HG.out]), _, rfl⟩
  cases h5 : inB aw 0 ((xs.length : Int) - 1)
  · have HG : Hid (R = 2) := Lib.hid (by rw [HR.out]; unfold baseF; rw [H1.out, H2.out, h3, h4, h5]; rfl)
    go_wp2_with (go_at_call 67; refine (l00In_any _ _ _ _).mono ?_; rintro e w' ⟨rfl, rfl⟩)
    go_ret
    exact ⟨ret_int (by rw [HG.out]), _, rfl⟩
  cases h6 : inB am 0 100000
  · have HG : Hid (R = 2) := Lib.hid (by rw [HR.out]; unfold baseF; rw [H1.out, H2.out, h3, h4, h5, h6]; rfl)
    go_wp2_with (go_at_call 67; refine (l00In_any _ _ _ _).mono ?_; rintro e w' ⟨rfl, rfl⟩)
    go_ret
    exact ⟨ret_int (by rw [HG.out]), _, rfl⟩
  go_wp2_with (go_at_call 67; refine (l00In_any _ _ _ _).mono ?_; rintro e w' ⟨rfl, rfl⟩)
  have H3 := Lib.hid h3
  have H4 := Lib.hid h4
  have H5 := Lib.hid h5
  have H6 := Lib.hid h6
  obtain ⟨aw0, aw1⟩ := inB_iff.1 h5
  obtain ⟨am0, am1⟩ := inB_iff.1 h6
  clear h3 h4 h5 h6
  obtain ⟨a, rfl⟩ : ∃ a : Nat, aw = (a : Int) := ⟨aw.toNat, by omega⟩
  have hax : a < xs.length := by omega
  have HSE : Hid (sysB xs.length rs dr st = (lstN xs.length rs 1 1000000 && (lstN xs.length dr (-100000) 100000 && lstN xs.length st (-100000) 100000))) := Lib.hid rfl
  have HL1 : Hid (lstN xs.length rs 1 1000000 = (decide ((rs.length : Int) = xs.length) && allIn rs 1 1000000)) := Lib.hid rfl
  have HL2 : Hid (lstN xs.length dr (-100000) 100000 = (decide ((dr.length : Int) = xs.length) && allIn dr (-100000) 100000)) := Lib.hid rfl
  have HL3 : Hid (lstN xs.length st (-100000) 100000 = (decide ((st.length : Int) = xs.length) && allIn st (-100000) 100000)) := Lib.hid rfl
  have HRB : Hid (R = if ((sysB xs.length rs dr st && hasFB xs.length fs) && decide (dr.getD a 0 + am ≤ 100000)) = true then 0 else 7) := Lib.hid (by rw [HR.out]; unfold baseF; rw [H1.out, H2.out, H3.out, H4.out, H5.out, H6.out, Int.toNat_natCast]; rfl)
  refine (l07Res_any bm om A cp xs.length AR cr rs w.heap.size _ (by omega) (by omega) (GR.out.below (BD.out _)) (cell_later (BD.out _) K1.out)).mono ?_
  rintro e w3 ⟨rfl, d3, rfl⟩
  rw [← HL1.out]
  cases h5 : lstN xs.length rs 1 1000000
  · have HG : Hid (R = 7) := Lib.hid (by rw [HRB.out, HSE.out, h5]; rfl)
    clear h5
    go_wp2_with fail
    go_ret
    exact ⟨ret_int (by rw [HG.out]), _, rfl⟩
  have H7 := Lib.hid h5
  clear h5
  go_wp2_with fail
  refine (l07Fans_any bm om A cp xs.length AF cf fs w.heap.size _ (by omega) (fans_aw H2.out) (by omega) (GF.out.below (BD.out _)) (cell_later (BD.out _) K1.out)).mono ?_
  rintro e w4 ⟨rfl, d4, rfl⟩
  cases h6 : hasFB xs.length fs
  · have HG : Hid (R = 7) := Lib.hid (by rw [HRB.out, h6, Bool.and_false, Bool.false_and]; rfl)
    clear h6
    go_wp2_with fail
    go_ret
    exact ⟨ret_int (by rw [HG.out]), _, rfl⟩
  have H8 := Lib.hid h6
  clear h6
  go_wp2_with fail
  refine (l07Pressures_any bm om A cp xs.length AD cd dr w.heap.size _ (by omega) (by omega) (GD.out.below (BD.out _)) (cell_later (BD.out _) K1.out)).mono ?_
  rintro e w5 ⟨rfl, d5, rfl⟩
  rw [← HL2.out]
  cases h7 : lstN xs.length dr (-100000) 100000
  · have HG : Hid (R = 7) := Lib.hid (by rw [HRB.out, HSE.out, H7.out, h7]; rfl)
    clear h7
    go_wp2_with fail
    go_ret
    exact ⟨ret_int (by rw [HG.out]), _, rfl⟩
  have H9 := Lib.hid h7
  obtain ⟨hdx, hdb⟩ := lstN_iff.1 h7
  have hxb := hdb a hax
  have HDX := Lib.hid hdx
  clear h7 hdx hdb
  go_wp2_with fail
  refine (l07Flows_any bm om A cp xs.length AS cs st w.heap.size _ (by omega) (by omega) (GS.out.below (BD.out _)) (cell_later (BD.out _) K1.out)).mono ?_
  rintro e w6 ⟨rfl, d6, rfl⟩
  rw [← HL3.out]
  cases h8 : lstN xs.length st (-100000) 100000
  · have HG : Hid (R = 7) := Lib.hid (by rw [HRB.out, HSE.out, H7.out, H9.out, h8]; rfl)
    clear h8
    go_wp2_with fail
    go_ret
    exact ⟨ret_int (by rw [HG.out]), _, rfl⟩
  have HRC : Hid (R = if dr.getD a 0 + am ≤ 100000 then 0 else 7) := Lib.hid (by rw [HRB.out, HSE.out, H7.out, H9.out, h8, H8.out]; simp)
  obtain ⟨add, rfl, hda, hdc⟩ := GD.out.atD (k := a) (by have := HDX.out; omega)
  have ad1 : (a : Int) < dr.length := by have := HDX.out; omega
  clear h8
  generalize dr.getD a 0 = x at *
  by_cases h9 : x + am ≤ 100000
  · have HG : Hid (R = 0) := Lib.hid (by rw [HRC.out, if_pos h9])
    go_wp2_with fail
    go_ret
    exact ⟨ret_int (by rw [HG.out]), _, rfl⟩
  · have HG : Hid (R = 7) := Lib.hid (by rw [HRC.out, if_neg h9])
    go_wp2_with fail
    go_ret
    exact ⟨ret_int (by rw [HG.out]), _, rfl⟩
set_option maxRecDepth 100000 in
set_option maxHeartbeats 3200000 in
theorem l18Fire_any (bm om : Nat) (J : Int) (A : Option Addr) (cp : Nat) (xs : List Aw) (AR : Option Addr) (cr : Nat) (rs : List Int) (AF : Option Addr) (cf : Nat) (fs : List Fa) (AD : Option Addr) (cd : Nat) (dr : List Int) (AS : Option Addr) (cs : Nat) (st : List Int) (tol rds : Int) (aw am : Int) (w : World) (hxl : (xs.length : Int) ≤ 1048576) (hrl : rs.length ≤ 1048576) (hfl : fs.length ≤ 1048576) (hdl : dr.length ≤ 1048576) (hsl : st.length ≤ 1048576) (fX : FitsA xs) (fF : FitsF fs) (lF : FansLen fs) (hI : Recs encA 7 w.heap.size w A xs) (hR : Ints w.heap.size w AR rs) (hF : Fns w.heap.size w AF fs) (hD : Ints w.heap.size w AD dr) (hS : Ints w.heap.size w AS st)
    (m0 : w.cell? ⟨bm, om, none⟩ = some (.int .i64 J)) (mm : w.cell? ⟨bm, om + 1, none⟩ = some (.slice A xs.length cp)) :
    Calls Tryz.prog 60 #[.pointer (some ⟨bm, om, none⟩), .slice AR rs.length cr, .slice AF fs.length cf, .slice AD dr.length cd, .slice AS st.length cs, .int .i64 tol, .int .i64 rds, .int .i64 aw, .int .i64 am] w fun e w' => ∃ u, e = .returned (.tuple #[u, .int .i64 (fireF J xs rs fs dr st tol rds aw am).2.1, .int .i64 (fireF J xs rs fs dr st tol rds aw am).2.2]) ∧ Own w.heap.size w' u (fireF J xs rs fs dr st tol rds aw am).1 ∧ Below w.heap.size w w' := by
  obtain ⟨R, hRR⟩ : ∃ R, R = fireF J xs rs fs dr st tol rds aw am := ⟨_, rfl⟩
  rw [← hRR]
  have HR := Lib.hid hRR
  have CB := Lib.hid (l18Base_any bm om J A cp xs AR cr rs AF cf fs AD cd dr AS cs st tol rds aw am w.heap.size w hxl hrl hfl hdl hsl fX fF lF hI hR hF hD hS (Nat.le_refl _) m0 mm)
  have C5 := Lib.hid (fun (W : World) (hb : Below w.heap.size w W) => l00Own_gen AD cd dr w.heap.size W hdl (hD.below hb))
  have C6 := Lib.hid (fun (AD' : Option Addr) (cd' : Nat) (dr' : List Int) (W : World) (hb : Below w.heap.size w W) (h1 : dr'.length ≤ 1048576) (h3 : Ints W.heap.size W AD' dr') => SolveFlows_s J A cp xs AR cr rs AF cf fs AD' cd' dr' AS cs st tol rds W hxl hrl hfl h1 hsl fX fF lF ((hI.below hb).more hb.size) ((hR.below hb).more hb.size) ((hF.below hb).more hb.size) h3 ((hS.below hb).more hb.size))
  have hbmw : bm < w.heap.size := World.block_lt_of_cell? _ _ m0
  have K0 := Lib.hid m0
  have K1 := Lib.hid mm
  clear hI hR hF hD hS fX fF lF hRR m0 mm
  go_enter Tryz.func60, Tryz.ntmps60
  go_wp2_with fail
  refine CB.out.mono ?_
  rintro e w1 ⟨rfl, d1, rfl⟩
  have be1 := below_drewN (Below.refl w.heap.size w) d1
  cases hc : decide (baseF J xs rs fs dr st tol rds aw am = 0)
  · have hc := of_decide_eq_false hc
    have HG : Hid (R = ([], 0, baseF J xs rs fs dr st tol rds aw am)) := Lib.hid (by rw [HR.out]; exact fireF_bad rfl hc)
    have hcb : (baseF J xs rs fs dr st tol rds aw am != 0) = true := by simpa using hc
    generalize baseF J xs rs fs dr st tol rds aw am = c at *
    clear hc
    go_wp2_with fail
    go_ret3
    refine ⟨.slice none 0 0, ret_v3 (by rw [HG.out]), ?_, be1⟩
    rw [HG.out]; exact Own.nil_ _ _
  have hc := of_decide_eq_true hc
  have HG : Hid (R = solveF J xs rs fs (moreF dr aw am) st tol rds) := Lib.hid (by rw [HR.out]; unfold fireF; rw [if_pos hc])
  have HB : Hid ((0 ≤ aw ∧ aw ≤ (xs.length : Int) - 1) ∧ (0 ≤ am ∧ am ≤ 100000) ∧ lstN xs.length dr (-100000) 100000 = true ∧ dr.getD aw.toNat 0 + am ≤ 100000) := Lib.hid (by
    unfold baseF at hc
    split at hc
    · split at hc
      · split at hc
        · rename_i _ ha hb
          simp only [Bool.and_eq_true, decide_eq_true_eq] at ha hb
          have hs := hb.1.1
          unfold sysB at hs
          simp only [Bool.and_eq_true] at hs
          exact ⟨inB_iff.1 ha.2.2.1, inB_iff.1 ha.2.2.2, hs.2.1, hb.2⟩
        · cases hc
      · cases hc
    · cases hc)
  rw [hc]
  clear hc
  obtain ⟨⟨aw0, aw1⟩, ⟨am0, am1⟩, h7, h8⟩ := HB.out
  obtain ⟨a, rfl⟩ : ∃ a : Nat, aw = (a : Int) := ⟨aw.toNat, by omega⟩
  have hax : a < xs.length := by omega
  rw [Int.toNat_natCast] at h8
  have HM := Lib.hid (more_ok h7 hax am0 h8)
  have HME : Hid (moreF dr (a : Int) am = dr.set a (dr.getD a 0 + am)) := Lib.hid (by unfold moreF; rw [Int.toNat_natCast])
  obtain ⟨hdx, hdb⟩ := lstN_iff.1 h7
  have hxb := hdb a hax
  have HDX := Lib.hid hdx
  have ad1 : (a : Int) < dr.length := by omega
  have z0 : (0 : Int) ≤ (a : Int) := by omega
  generalize hx : dr.getD a 0 = x at *
  have HX := Lib.hid hx
  clear hx h7 hdx hdb CB HB
  go_wp2_with fail
  refine (C5.out _ be1).mono ?_
  rintro e w4 ⟨v4, rfl, ho4, hb4⟩
  have be4 := be1.trans (hb4.mono be1.size)
  obtain ⟨AV, cv, hv, -, -⟩ := ho4.slice
  subst hv
  obtain ⟨g, rfl, hg1, hrow⟩ := ho4.row (n := dr.length) (by omega) rfl
  have hg1' : w.heap.size ≤ g := hg1
  have hca := row_cell hrow rfl (i := a) (by omega)
  rw [HX.out] at hca
  have hfr := row_free hrow a
  have be5 : Below w.heap.size w (w4.setCell ⟨g, a, none⟩ (.int .i64 (x + am))) := be4.setCell (by simpa using hg1') _
  have k05 := cell_later be5 K0.out
  have k15 := cell_later be5 K1.out
  obtain ⟨r1, _⟩ := World.ownsRow.stored hrow a (.int .i64 (x + am))
  rw [vals_set] at r1
  have hints := (Own.of_row (b := w.heap.size) r1 (List.length_set ..) hg1').ints
  rw [HME.out] at HM HG
  obtain ⟨hm1, hm2⟩ := lstN_iff.1 HM.out
  have hS := C6.out (some ⟨g, 0, none⟩) cv (dr.set a (x + am)) _ be5 (by rw [List.length_set]; exact hdl) hints
  rw [List.length_set, ← HG.out] at hS
  have HS := Lib.hid hS
  clear hS hints r1 hrow ho4 hm1 hm2 HM HG hb4
  go_wp2_with fail
  generalize w4.setCell ⟨g, a, none⟩ (.int .i64 (x + am)) = w5 at *
  refine HS.out.mono ?_
  rintro e w6 ⟨u, rfl, ho6, hb6⟩
  have HO := Lib.hid ho6
  clear ho6
  go_wp2_with fail
  go_ret3
  exact ⟨u, rfl, HO.out.base (fun g hg => Nat.le_trans be5.size (World.ownsRow.lt HO.out g hg).1), be5.trans (hb6.mono be5.size)⟩
set_option maxRecDepth 100000 in
theorem FlowsWithFire_s (J : Int) (A : Option Addr) (cp : Nat) (xs : List Aw) (AR : Option Addr) (cr : Nat) (rs : List Int) (AF : Option Addr) (cf : Nat) (fs : List Fa) (AD : Option Addr) (cd : Nat) (dr : List Int) (AS : Option Addr) (cs : Nat) (st : List Int) (tol rds : Int) (aw am : Int) (w : World) (hxl : (xs.length : Int) ≤ 1048576) (hrl : rs.length ≤ 1048576) (hfl : fs.length ≤ 1048576) (hdl : dr.length ≤ 1048576) (hsl : st.length ≤ 1048576) (fX : FitsA xs) (fF : FitsF fs) (lF : FansLen fs) (hI : Recs encA 7 w.heap.size w A xs) (hR : Ints w.heap.size w AR rs) (hF : Fns w.heap.size w AF fs) (hD : Ints w.heap.size w AD dr) (hS : Ints w.heap.size w AS st) :
    Calls Tryz.prog 32 #[.agg #[.int .i64 J, .slice A xs.length cp], .slice AR rs.length cr, .slice AF fs.length cf, .slice AD dr.length cd, .slice AS st.length cs, .int .i64 tol, .int .i64 rds, .int .i64 aw, .int .i64 am] w fun e w' => ∃ u, e = .returned (.tuple #[u, .int .i64 (fireF J xs rs fs dr st tol rds aw am).2.1, .int .i64 (fireF J xs rs fs dr st tol rds aw am).2.2]) ∧ Own w.heap.size w' u (fireF J xs rs fs dr st tol rds aw am).1 ∧ Below w.heap.size w w' := by
  have be0 : Below w.heap.size w (w.alloc (.cells #[.int .i64 J, .slice A xs.length cp] 33)) := by go_grown
  have k0 : ((w.alloc (.cells #[.int .i64 J, .slice A xs.length cp] 33))).cell? ⟨w.heap.size, 0, none⟩ = some (.int .i64 J) := by go_simp
  have k1 : ((w.alloc (.cells #[.int .i64 J, .slice A xs.length cp] 33))).cell? ⟨w.heap.size, 1, none⟩ = some (.slice A xs.length cp) := by go_simp
  have CF := Lib.hid (l18Fire_any w.heap.size 0 J A cp xs AR cr rs AF cf fs AD cd dr AS cs st tol rds aw am (w.alloc (.cells #[.int .i64 J, .slice A xs.length cp] 33)) hxl hrl hfl hdl hsl fX fF lF ((hI.below be0).more be0.size) ((hR.below be0).more be0.size) ((hF.below be0).more be0.size) ((hD.below be0).more be0.size) ((hS.below be0).more be0.size) k0 k1)
  clear hI hR hF hD hS fX fF lF k0 k1
  generalize fireF J xs rs fs dr st tol rds aw am = R at *
  go_enter Tryz.func32, Tryz.ntmps32
  go_wp2_with fail
  refine CF.out.mono ?_
  rintro e w1 ⟨u, rfl, ho, hb⟩
  have HO := Lib.hid ho
  clear ho
  go_wp2_with fail
  go_ret3
  exact ⟨u, rfl, HO.out.base (fun g hg => Nat.le_trans be0.size (World.ownsRow.lt HO.out g hg).1), be0.trans (hb.mono be0.size)⟩
end Go.Proofs.YtejkoicgbgoiaaaGreat

/- Fires: when airways turn round, by the program and by the reference. Conditions: the facts on memory and on lengths that each theorem names. -/
namespace Go.Proofs.YtejkoicgbgoiaaaGreat
open Go.RowKit
open Pl
/-! ### Lengths -/
theorem passK_len {rs dr : List Int} {fs : List Fa} : ∀ {ms : List (List Int)} {fl fl' : List Int}, passK rs dr fs ms fl = some fl' → fl'.length = fl.length
  | [], fl, fl', h => by injection h with h; rw [h]
  | m :: ms, fl, fl', h => by
    unfold passK at h
    split at h
    · have := passK_len h
      rw [this]; exact addK_length _ _ _ _
    · cases h
theorem solveR_len {rs dr : List Int} {fs : List Fa} {ms : List (List Int)} {tol : Int} : ∀ (n : Nat) {fl : List Int}, (solveR rs dr fs ms tol n fl).2.2 = 0 → (solveR rs dr fs ms tol n fl).1.length = fl.length
  | 0, fl, h => by
    rw [solveR_zero] at h ⊢
    split at h
    · rename_i hc; rw [if_pos hc]
    · cases h
  | n + 1, fl, h => by
    by_cases hc : worstL (errsL rs (pushF fs fl dr) fl ms) ≤ tol
    · rw [solveR_yes hc]
    · cases hp : passK rs dr fs ms fl with
      | none => rw [solveR_bad hc hp] at h; cases h
      | some fl' =>
        rw [solveR_go hc hp] at h ⊢
        rw [solveR_len n h, passK_len hp]
theorem solveF_len {J : Int} {xs : List Aw} {rs : List Int} {fs : List Fa} {dr st : List Int} {tol rds : Int} (h : (solveF J xs rs fs dr st tol rds).2.2 = 0) : (solveF J xs rs fs dr st tol rds).1.length = xs.length := by
  unfold solveF at h ⊢
  split at h
  · rename_i h1
    split at h
    · rename_i h2
      split at h
      · rename_i h3
        split at h
        · rename_i h4
          rw [if_pos h1, if_pos h2, if_pos h3, if_pos h4, solveR_len _ h]
          unfold sysB at h3
          simp only [Bool.and_eq_true] at h3
          exact (lstN_iff.1 h3.1.2.2).1
        · cases h
      · cases h
    · cases h
  · cases h
theorem fireF_len {J : Int} {xs : List Aw} {rs : List Int} {fs : List Fa} {dr st : List Int} {tol rds aw am : Int} (h : (fireF J xs rs fs dr st tol rds aw am).2.2 = 0) : (fireF J xs rs fs dr st tol rds aw am).1.length = xs.length := by
  by_cases hb : baseF J xs rs fs dr st tol rds aw am = 0
  · have e : fireF J xs rs fs dr st tol rds aw am = solveF J xs rs fs (moreF dr aw am) st tol rds := by unfold fireF; rw [if_pos hb]
    rw [e] at h ⊢
    exact solveF_len h
  · rw [fireF_bad rfl hb] at h
    exact absurd h hb
/-! ### The table -/
/-- Two numbers of opposite signs. -/
def opsB (a b : Int) : Bool := (decide (0 < a) && decide (b < 0)) || (decide (a < 0) && decide (0 < b))
def turnK (be af : List Int) (n : Int) (tb : List Int) : Nat → List Int
  | 0 => tb
  | k + 1 => if (turnK be af n tb k).getD k 0 = 0 ∧ opsB (be.getD k 0) (af.getD k 0) = true then (turnK be af n tb k).set k n else turnK be af n tb k
theorem turnK_length (be af : List Int) (n : Int) (tb : List Int) : ∀ k, (turnK be af n tb k).length = tb.length
  | 0 => rfl
  | k + 1 => by
    unfold turnK
    split
    · rw [List.length_set]; exact turnK_length be af n tb k
    · exact turnK_length be af n tb k
theorem turnK_bd {be af : List Int} {n : Int} {tb : List Int} (hn : 0 ≤ n ∧ n ≤ 100) (ht : ∀ i, 0 ≤ tb.getD i 0 ∧ tb.getD i 0 ≤ 100) : ∀ k i, 0 ≤ (turnK be af n tb k).getD i 0 ∧ (turnK be af n tb k).getD i 0 ≤ 100
  | 0, i => ht i
  | k + 1, i => by
    have ih := turnK_bd (be := be) (af := af) hn ht k i
    unfold turnK
    split
    · by_cases hk : k < (turnK be af n tb k).length
      · rw [getD_set _ _ _ _ hk]; split
        · exact hn
        · exact ih
      · rw [List.set_eq_of_length_le (by omega)]; exact ih
    · exact ih
noncomputable def tabR (fire : Int → List Int × Int × Int) (be : List Int) : Nat → Int → List Int → List Int × Int
  | 0, _, tb => (tb, 0)
  | r + 1, n, tb => if (fire n).2.2 = 0 then tabR fire be r (n + 1) (turnK be (fire n).1 n tb tb.length) else ([], (fire n).2.2)
/-- When airways turn round: a number for each airway, and a code. -/
noncomputable def tableF (J : Int) (xs : List Aw) (rs : List Int) (fs : List Fa) (dr st : List Int) (tol rds aw sp ct : Int) : List Int × Int :=
  if (mineB J xs && fansB fs) = true then
    if (inB sp 1 100000 && (inB ct 1 20 && decide (sp * ct ≤ 100000))) = true then
      if (fireF J xs rs fs dr st tol rds aw 0).2.2 = 0 then tabR (fun n => fireF J xs rs fs dr st tol rds aw (n * sp)) (fireF J xs rs fs dr st tol rds aw 0).1 ct.toNat 1 (List.replicate xs.length 0)
      else ([], (fireF J xs rs fs dr st tol rds aw 0).2.2)
    else ([], 2)
  else ([], 1)
theorem tabR_len {fire : Int → List Int × Int × Int} {be : List Int} : ∀ (r : Nat) (n : Int) (tb : List Int), (tabR fire be r n tb).1.length ≤ tb.length
  | 0, _, tb => Nat.le_refl _
  | r + 1, n, tb => by
    unfold tabR
    split
    · exact Nat.le_trans (tabR_len r _ _) (by rw [turnK_length]; exact Nat.le_refl _)
    · simp
theorem tableF_len (J : Int) (xs : List Aw) (rs : List Int) (fs : List Fa) (dr st : List Int) (tol rds aw sp ct : Int) : (tableF J xs rs fs dr st tol rds aw sp ct).1.length ≤ xs.length := by
  unfold tableF
  split
  · split
    · split
      · exact Nat.le_trans (tabR_len _ _ _) (by rw [List.length_replicate]; exact Nat.le_refl _)
      · simp
    · simp
  · simp
theorem sp_mul {n sp ct : Int} (h1 : 1 ≤ n) (h2 : n ≤ ct) (h3 : 1 ≤ sp) (h4 : sp * ct ≤ 100000) : 0 ≤ n * sp ∧ n * sp ≤ 100000 := by
  have a := mul_ge (a := n) (b := sp) (by omega) (by omega)
  have b := mul_le (a := n) (A := ct) (b := sp) (B := sp) (by omega) h2 (by omega) (Int.le_refl _)
  rw [Int.mul_comm ct sp] at b
  omega
theorem oppo_i (a b : Int) (w : World) : Calls Tryz.prog 44 #[.int .i64 a, .int .i64 b] w fun e w' => e = .returned (.bool (opsB a b)) ∧ w = w' := by
  unfold opsB
  rcases Int.lt_trichotomy a 0 with h | rfl | h <;> rcases Int.lt_trichotomy b 0 with g | rfl | g
  all_goals
    go_enter Tryz.func44, Tryz.ntmps44
    go_wp2
    go_ret
    exact ⟨by simp <;> omega, rfl⟩
theorem oppo_s (a b : Int) (w : World) : Calls Tryz.prog 68 #[.int .i64 a, .int .i64 b] w fun e w' => e = .returned (.bool (opsB a b)) ∧ w = w' := by
  unfold opsB
  rcases Int.lt_trichotomy a 0 with h | rfl | h <;> rcases Int.lt_trichotomy b 0 with g | rfl | g
  all_goals
    go_enter Tryz.func68, Tryz.ntmps68
    go_wp2
    go_ret
    exact ⟨by simp <;> omega, rfl⟩
set_option maxRecDepth 100000 in
set_option maxHeartbeats 6400000 in
theorem ReversalTable_i (J : Int) (A : Option Addr) (cp : Nat) (xs : List Aw) (AR : Option Addr) (cr : Nat) (rs : List Int) (AF : Option Addr) (cf : Nat) (fs : List Fa) (AD : Option Addr) (cd : Nat) (dr : List Int) (AS : Option Addr) (cs : Nat) (st : List Int) (tol rds : Int) (aw sp ct : Int) (w : World) (hxl : (xs.length : Int) ≤ 1048576) (hrl : rs.length ≤ 1048576) (hfl : fs.length ≤ 1048576) (hdl : dr.length ≤ 1048576) (hsl : st.length ≤ 1048576) (fX : FitsA xs) (fR : Fits rs) (fF : FitsF fs) (lF : FansLen fs) (fD : Fits dr) (fS : Fits st) (hI : Recs encA 7 w.heap.size w A xs) (hR : Ints w.heap.size w AR rs) (hF : Fns w.heap.size w AF fs) (hD : Ints w.heap.size w AD dr) (hS : Ints w.heap.size w AS st) :
    Calls Tryz.prog 18 #[.agg #[.int .i64 J, .slice A xs.length cp], .slice AR rs.length cr, .slice AF fs.length cf, .slice AD dr.length cd, .slice AS st.length cs, .int .i64 tol, .int .i64 rds, .int .i64 aw, .int .i64 sp, .int .i64 ct] w fun e w' => ∃ u, e = .returned (.tuple #[u, .int .i64 (tableF J xs rs fs dr st tol rds aw sp ct).2]) ∧ Own w.heap.size w' u (tableF J xs rs fs dr st tol rds aw sp ct).1 ∧ Below w.heap.size w w' := by
  obtain ⟨R, hRR⟩ : ∃ R, R = tableF J xs rs fs dr st tol rds aw sp ct := ⟨_, rfl⟩
  rw [← hRR]
  have HR := Lib.hid hRR
  have C1 := Lib.hid (fun (W : World) (hb : Below w.heap.size w W) => ValidMine_i J A cp xs w.heap.size W (by omega) fX (hI.below hb) hb.size)
  have C2 := Lib.hid (fun (W : World) (hb : Below w.heap.size w W) => ValidFans_i AF cf fs w.heap.size W (by omega) fF lF (hF.below hb) hb.size)
  have CF := Lib.hid (fun (am : Int) (W : World) (hb : Below w.heap.size w W) => FlowsWithFire_i J A cp xs AR cr rs AF cf fs AD cd dr AS cs st tol rds aw am W hxl hrl hfl hdl hsl fX fR fF lF fD fS ((hI.below hb).more hb.size) ((hR.below hb).more hb.size) ((hF.below hb).more hb.size) ((hD.below hb).more hb.size) ((hS.below hb).more hb.size))
  have be0 : Below w.heap.size w (w.alloc (.cells #[.int .i64 J, .slice A xs.length cp] 33)) := by go_grown
  have k0 : ((w.alloc (.cells #[.int .i64 J, .slice A xs.length cp] 33))).cell? ⟨w.heap.size, 0, none⟩ = some (.int .i64 J) := by go_simp
  have k1 : ((w.alloc (.cells #[.int .i64 J, .slice A xs.length cp] 33))).cell? ⟨w.heap.size, 1, none⟩ = some (.slice A xs.length cp) := by go_simp
  obtain ⟨i0, hi, hz0, hz1, hz2⟩ := info_parts infoI
  clear hI hR hF hD hS fX fR fF lF fD fS hRR
  go_enter Tryz.func18, Tryz.ntmps18
  go_wp2_with fail
  generalize (w.alloc (.cells #[.int .i64 J, .slice A xs.length cp] 33)) = w0 at *
  refine (C1.out _ be0).mono ?_
  rintro e w1 ⟨rfl, hb1⟩
  have k01 := cell_later hb1 k0
  have k11 := cell_later hb1 k1
  have be1 := be0.trans (hb1.mono be0.size)
  cases h1 : mineB J xs
  · have HG : Hid (R = ([], 1)) := Lib.hid (by rw [HR.out]; unfold tableF; rw [h1]; rfl)
    clear h1
    go_wp2_with fail
    go_ret2
    refine ⟨.slice none 0 0, ret_vi (by rw [HG.out]), ?_, be1⟩
    rw [HG.out]; exact Own.nil_ _ _
  have H1 := Lib.hid h1
  clear h1 k0 k1 hb1
  go_wp2_with fail
  refine (C2.out _ be1).mono ?_
  rintro e w2 ⟨rfl, hb2⟩
  have k02 := cell_later hb2 k01
  have k12 := cell_later hb2 k11
  have be2 := be1.trans (hb2.mono be1.size)
  cases h2 : fansB fs
  · have HG : Hid (R = ([], 1)) := Lib.hid (by rw [HR.out]; unfold tableF; rw [H1.out, h2]; rfl)
    clear h2
    go_wp2_with fail
    go_ret2
    refine ⟨.slice none 0 0, ret_vi (by rw [HG.out]), ?_, be2⟩
    rw [HG.out]; exact Own.nil_ _ _
  have H2 := Lib.hid h2
  clear h2 k01 k11 hb2
  cases h3 : inB sp 1 100000
  · have HG : Hid (R = ([], 2)) := Lib.hid (by rw [HR.out]; unfold tableF; rw [H1.out, H2.out, h3]; rfl)
    go_wp2_with (go_at_call 43; refine (within_any _ _ _ _).mono ?_; rintro e w' ⟨rfl, rfl⟩)
    go_ret2
    refine ⟨.slice none 0 0, ret_vi (by rw [HG.out]), ?_, be2⟩
    rw [HG.out]; exact Own.nil_ _ _
  obtain ⟨sp0, sp1⟩ := inB_iff.1 h3
  cases h4 : inB ct 1 20
  · have HG : Hid (R = ([], 2)) := Lib.hid (by rw [HR.out]; unfold tableF; rw [H1.out, H2.out, h3, h4]; rfl)
    go_wp2_with (go_at_call 43; refine (within_any _ _ _ _).mono ?_; rintro e w' ⟨rfl, rfl⟩)
    go_ret2
    refine ⟨.slice none 0 0, ret_vi (by rw [HG.out]), ?_, be2⟩
    rw [HG.out]; exact Own.nil_ _ _
  obtain ⟨ct0, ct1⟩ := inB_iff.1 h4
  have hpm := mul_le (a := sp) (b := ct) (A := 100000) (B := 20) (by omega) sp1 (by omega) ct1
  have hpg := mul_ge (a := sp) (b := ct) (by omega) (by omega)
  by_cases h5 : sp * ct ≤ 100000
  rotate_left
  · have HG : Hid (R = ([], 2)) := Lib.hid (by rw [HR.out]; unfold tableF; rw [H1.out, H2.out, h3, h4, decide_eq_false h5]; rfl)
    go_wp2_with (go_at_call 43; refine (within_any _ _ _ _).mono ?_; rintro e w' ⟨rfl, rfl⟩)
    go_ret2
    refine ⟨.slice none 0 0, ret_vi (by rw [HG.out]), ?_, be2⟩
    rw [HG.out]; exact Own.nil_ _ _
  have HRT : Hid (R = if (fireF J xs rs fs dr st tol rds aw 0).2.2 = 0 then tabR (fun n => fireF J xs rs fs dr st tol rds aw (n * sp)) (fireF J xs rs fs dr st tol rds aw 0).1 ct.toNat 1 (List.replicate xs.length 0) else ([], (fireF J xs rs fs dr st tol rds aw 0).2.2)) := Lib.hid (by rw [HR.out]; unfold tableF; rw [H1.out, H2.out, h3, h4, decide_eq_true h5]; rfl)
  have hx24 : xs.length ≤ 24 := by have := (mineB_bd H1.out).2.1; omega
  go_wp2_with (go_at_call 43; refine (within_any _ _ _ _).mono ?_; rintro e w' ⟨rfl, rfl⟩)
  clear h3 h4
  refine (CF.out 0 _ be2).mono ?_
  rintro e w3 ⟨u3, rfl, ho3, hb3⟩
  have k03 := cell_later hb3 k02
  have k13 := cell_later hb3 k12
  have be3 := be2.trans (hb3.mono be2.size)
  have HLB := Lib.hid (fun h => fireF_len (J := J) (xs := xs) (rs := rs) (fs := fs) (dr := dr) (st := st) (tol := tol) (rds := rds) (aw := aw) (am := 0) h)
  generalize fireF J xs rs fs dr st tol rds aw 0 = f0 at *
  obtain ⟨bf, er, c0⟩ := f0
  dsimp only at *
  by_cases hc0 : c0 = 0
  rotate_left
  · have HG : Hid (R = ([], c0)) := Lib.hid (by rw [HRT.out, if_neg hc0])
    have hcb : (c0 != 0) = true := by simpa using hc0
    clear hc0 k02 k12
    go_wp2_with fail
    go_ret2
    refine ⟨.slice none 0 0, ret_vi (by rw [HG.out]), ?_, be3⟩
    rw [HG.out]; exact Own.nil_ _ _
  subst hc0
  have hbl := HLB.out rfl
  obtain ⟨AB, cb, hv, -, -⟩ := ho3.slice
  rw [hbl] at hv
  subst hv
  have HG : Hid (R = tabR (fun n => fireF J xs rs fs dr st tol rds aw (n * sp)) bf ct.toNat 1 (List.replicate xs.length 0)) := Lib.hid (by rw [HRT.out, if_pos rfl])
  have JB := Lib.hid ho3.ints
  have HBL := Lib.hid hbl
  have hbb : i0.bytes * xs.length ≤ 281474976710656 := by rw [hz2]; omega
  have hmx : xs.length ≤ maxLen := le_max (by omega)
  have be3' := Lib.hid be3
  clear ho3 hbl HLB HRT HR k02 k12
  go_wp2_with (at_make; refine wpList_make_full _ rfl (.tmp 74) (.tmp 74) 25 rfl w3.heap.size 2 i0 (.int .i64 0) 1 Tryz.underlying25 hi hz0 hz1 .i64 .i64 (xs.length : Int) (xs.length : Int) xs.length rfl rfl rfl rfl hbb hmx (Nat.le_refl _) ?_; intro w4 hown hgr)
  have hbe4 : Below w3.heap.size w3 w4 := (Below.refl _ _).grown hgr (Nat.le_refl _) (fun k hk => by cases hk)
  have HO : Hid (w4.ownsRow w3.heap.size 2 1 (.slice (some ⟨w3.heap.size, 0, none⟩) xs.length xs.length) xs.length (vals (List.replicate xs.length 0))) := Lib.hid (by
    have e : (madeCells (Value.int .i64 0).cells (xs.length * 1)).toList = vals (List.replicate xs.length (0 : Int)) := by
      unfold vals
      rw [Nat.mul_one, List.map_replicate]
      exact toList_madeCells_one _ _
    rw [e] at hown
    exact hown)
  have hg34 : w3.heap.size < w4.heap.size := (World.ownsRow.lt HO.out _ rfl).2
  clear hown hgr hbb hmx hi hz0 hz1 hz2
  go_wp2_with fail
  go_loopw [26] (fun ss wr => ∃ (r : Nat) (n : Int) (tb : List Int), ss = .int .i64 n ∧ 1 ≤ n ∧ n + r = ct + 1 ∧ Below w3.heap.size w3 wr ∧ wr.ownsRow w3.heap.size 2 1 (.slice (some ⟨w3.heap.size, 0, none⟩) xs.length xs.length) xs.length (vals tb) ∧ tb.length = xs.length ∧ R = tabR (fun n => fireF J xs rs fs dr st tol rds aw (n * sp)) bf r n tb) (fun ss _ => (ct + 1 - intOf ss).toNat)
  case atStart => exact ⟨ct.toNat, 1, _, rfl, by omega, by omega, hbe4, HO.out, by simp, HG.out⟩
  case round =>
    clear HG HO
    obtain ⟨r, n, tb, rfl, n1, hnr, hbw, hrow, htl, hR⟩ := hrel
    have k0r := cell_later hbw k03
    have k1r := cell_later hbw k13
    have HTL := Lib.hid htl
    have HROW := Lib.hid hrow
    have HRr := Lib.hid hR
    have bew := be3'.out.trans (hbw.mono be3'.out.size)
    have hgw : w3.heap.size < wr.heap.size := (World.ownsRow.lt hrow _ rfl).2
    clear hrow htl hR
    by_cases hnc : n ≤ ct
    rotate_left
    · obtain rfl : r = 0 := by omega
      have HZ : Hid (R = (tb, 0)) := Lib.hid HRr.out
      go_wp2_with fail
      go_ret2
      refine ⟨_, ret_vi (by rw [HZ.out]), ?_, bew⟩
      rw [HZ.out]
      exact Own.of_row HROW.out HTL.out be3'.out.size
    obtain ⟨r', rfl⟩ : ∃ r', r = r' + 1 := ⟨r - 1, by omega⟩
    have hm := sp_mul n1 hnc sp0 h5
    go_wp2_with fail
    refine (CF.out (n * sp) _ bew).mono ?_
    rintro e w5 ⟨u5, rfl, ho5, hb5⟩
    have HLA := Lib.hid (fun h => fireF_len (J := J) (xs := xs) (rs := rs) (fs := fs) (dr := dr) (st := st) (tol := tol) (rds := rds) (aw := aw) (am := n * sp) h)
    have HRS : Hid (R = if (fireF J xs rs fs dr st tol rds aw (n * sp)).2.2 = 0 then tabR (fun n => fireF J xs rs fs dr st tol rds aw (n * sp)) bf r' (n + 1) (turnK bf (fireF J xs rs fs dr st tol rds aw (n * sp)).1 n tb tb.length) else ([], (fireF J xs rs fs dr st tol rds aw (n * sp)).2.2)) := Lib.hid HRr.out
    have bew5 := bew.trans (hb5.mono bew.size)
    have hbw5 := hbw.trans (hb5.mono hbw.size)
    clear HRr
    generalize fireF J xs rs fs dr st tol rds aw (n * sp) = f5 at *
    obtain ⟨af, er5, c5⟩ := f5
    dsimp only at *
    by_cases hc5 : c5 = 0
    rotate_left
    · have HG : Hid (R = ([], c5)) := Lib.hid (by rw [HRS.out, if_neg hc5])
      have hcb : (c5 != 0) = true := by simpa using hc5
      clear hc5
      go_wp2_with fail
      go_ret2
      refine ⟨.slice none 0 0, ret_vi (by rw [HG.out]), ?_, bew5⟩
      rw [HG.out]; exact Own.nil_ _ _
    subst hc5
    have hal := HLA.out rfl
    obtain ⟨AA, ca, hv, -, hat⟩ := ho5.slice
    rw [hal] at hv
    subst hv
    have HAL := Lib.hid hal
    have JA := Lib.hid ho5.ints
    have HAT := Lib.hid (fun ad (h : AA = some ad) => (hat ad h).2.1)
    have HG : Hid (R = tabR (fun n => fireF J xs rs fs dr st tol rds aw (n * sp)) bf r' (n + 1) (turnK bf af n tb xs.length)) := Lib.hid (by rw [HRS.out, if_pos rfl, HTL.out])
    have HROW5 := Lib.hid (row_on HROW.out hb5)
    clear ho5 hat hal HLA HRS k0r k1r
    go_wp2_with fail
    go_loopw [102] (fun ii wx => ∃ k : Nat, k ≤ xs.length ∧ ii = .int .i64 k ∧ wx.ownsRow w3.heap.size 2 1 (.slice (some ⟨w3.heap.size, 0, none⟩) xs.length xs.length) xs.length (vals (turnK bf af n tb k)) ∧ w5.grownBy wx (some w3.heap.size)) (fun ii _ => xs.length - (intOf ii).toNat)
    case atStart => exact ⟨0, Nat.zero_le _, rfl, HROW5.out, World.grownBy.refl _ _⟩
    case round =>
      obtain ⟨k, hk, rfl, hr, hg⟩ := hrel
      have hbx : Below w3.heap.size w3 wr := hbw5.grown hg hbw5.size (fun j hj => by injection hj with hj; omega)
      have HR5 := Lib.hid hr
      have HGX := Lib.hid hg
      by_cases hlt : k < xs.length
      · have hlen : (turnK bf af n tb k).length = xs.length := (turnK_length _ _ _ _ _).trans HTL.out
        have hct := row_cell hr hlen hlt
        have hft := row_free hr k
        obtain ⟨adb, rfl, hbb, hcb⟩ := (JB.out.below hbx).atD (k := k) (by have := HBL.out; omega)
        obtain ⟨ada, rfl, haa, hca0⟩ := JA.out.atD (k := k) (by have := HAL.out; omega)
        have hca := hg.cell hca0 (fun e => by rw [block_add] at e; injection e with e; have := HAT.out ada rfl; omega)
        have HST : Hid (turnK bf af n tb (k + 1) = if (turnK bf af n tb k).getD k 0 = 0 ∧ opsB (bf.getD k 0) (af.getD k 0) = true then (turnK bf af n tb k).set k n else turnK bf af n tb k) := Lib.hid rfl
        have HOP := Lib.hid (fun W => oppo_i (bf.getD k 0) (af.getD k 0) W)
        clear hr hg hlen hca0
        generalize turnK bf af n tb k = D at *
        generalize D.getD k 0 = x at *
        generalize bf.getD k 0 = y at *
        generalize af.getD k 0 = z at *
        generalize opsB y z = ob at *
        have j0 : (0 : Int) ≤ (k : Int) := by omega
        have j1 : (k : Int) < xs.length := by omega
        by_cases hx0 : x = 0
        · subst hx0
          cases ob
          · have HS2 := Lib.hid (show turnK bf af n tb (k + 1) = D by rw [HST.out, if_neg (by simp)])
            go_wp2_with (go_at_call 44; refine (HOP.out _).mono ?_; rintro e w' ⟨rfl, rfl⟩)
            go_roundw
            case rel => exact ⟨k + 1, by omega, by go_num, by rw [HS2.out]; exact HR5.out, HGX.out⟩
            case measure => simp [intOf]; omega
          · have HS2 := Lib.hid (show turnK bf af n tb (k + 1) = D.set k n by rw [HST.out, if_pos ⟨rfl, rfl⟩])
            go_wp2_with (go_at_call 44; refine (HOP.out _).mono ?_; rintro e w' ⟨rfl, rfl⟩)
            go_roundw
            case rel =>
              obtain ⟨r1, r2⟩ := World.ownsRow.stored HR5.out k (.int .i64 n)
              rw [vals_set] at r1
              exact ⟨k + 1, by omega, by go_num, by rw [HS2.out]; exact r1, HGX.out.trans r2⟩
            case measure => simp [intOf]; omega
        · have HS2 := Lib.hid (show turnK bf af n tb (k + 1) = D by rw [HST.out, if_neg (fun h => hx0 h.1)])
          have hxb : (x == 0) = false := by simpa using hx0
          clear hx0
          go_wp2_with (go_at_call 44; refine (HOP.out _).mono ?_; rintro e w' ⟨rfl, rfl⟩)
          go_roundw
          case rel => exact ⟨k + 1, by omega, by go_num, by rw [HS2.out]; exact HR5.out, HGX.out⟩
          case measure => simp [intOf]; omega
      · obtain rfl : k = xs.length := by omega
        clear hr hg
        go_wp2_with fail
        go_roundw
        case rel => exact ⟨r', n + 1, _, rfl, by omega, by omega, hbx, HR5.out, (turnK_length _ _ _ _ _).trans HTL.out, HG.out⟩
        case measure => simp [intOf]; omega
theorem baseF_one {J : Int} {xs : List Aw} {rs : List Int} {fs : List Fa} {dr st : List Int} {tol rds aw am : Int} : baseF J xs rs fs dr st tol rds aw am = 1 ↔ (mineB J xs && fansB fs) = false := by
  unfold baseF
  cases (mineB J xs && fansB fs)
  · simp
  · simp only [if_true]
    split
    · split <;> simp
    · simp
set_option maxRecDepth 100000 in
set_option maxHeartbeats 6400000 in
theorem l18Table_any (bm om : Nat) (J : Int) (A : Option Addr) (cp : Nat) (xs : List Aw) (AR : Option Addr) (cr : Nat) (rs : List Int) (AF : Option Addr) (cf : Nat) (fs : List Fa) (AD : Option Addr) (cd : Nat) (dr : List Int) (AS : Option Addr) (cs : Nat) (st : List Int) (tol rds : Int) (aw sp ct : Int) (w : World) (hxl : (xs.length : Int) ≤ 1048576) (hrl : rs.length ≤ 1048576) (hfl : fs.length ≤ 1048576) (hdl : dr.length ≤ 1048576) (hsl : st.length ≤ 1048576) (fX : FitsA xs) (fF : FitsF fs) (lF : FansLen fs) (hI : Recs encA 7 w.heap.size w A xs) (hR : Ints w.heap.size w AR rs) (hF : Fns w.heap.size w AF fs) (hD : Ints w.heap.size w AD dr) (hS : Ints w.heap.size w AS st)
    (m0 : w.cell? ⟨bm, om, none⟩ = some (.int .i64 J)) (mm : w.cell? ⟨bm, om + 1, none⟩ = some (.slice A xs.length cp)) :
    Calls Tryz.prog 36 #[.pointer (some ⟨bm, om, none⟩), .slice AR rs.length cr, .slice AF fs.length cf, .slice AD dr.length cd, .slice AS st.length cs, .int .i64 tol, .int .i64 rds, .int .i64 aw, .int .i64 sp, .int .i64 ct] w fun e w' => ∃ u, e = .returned (.tuple #[u, .int .i64 (tableF J xs rs fs dr st tol rds aw sp ct).2]) ∧ Own w.heap.size w' u (tableF J xs rs fs dr st tol rds aw sp ct).1 ∧ Below w.heap.size w w' := by
  obtain ⟨R, hRR⟩ : ∃ R, R = tableF J xs rs fs dr st tol rds aw sp ct := ⟨_, rfl⟩
  rw [← hRR]
  have HR := Lib.hid hRR
  have CB := Lib.hid (l18Base_any bm om J A cp xs AR cr rs AF cf fs AD cd dr AS cs st tol rds aw 0 w.heap.size w hxl hrl hfl hdl hsl fX fF lF hI hR hF hD hS (Nat.le_refl _) m0 mm)
  have CF := Lib.hid (fun (am : Int) (W : World) (hb : Below w.heap.size w W) => l18Fire_any bm om J A cp xs AR cr rs AF cf fs AD cd dr AS cs st tol rds aw am W hxl hrl hfl hdl hsl fX fF lF ((hI.below hb).more hb.size) ((hR.below hb).more hb.size) ((hF.below hb).more hb.size) ((hD.below hb).more hb.size) ((hS.below hb).more hb.size) (cell_later hb m0) (cell_later hb mm))
  have hbmw : bm < w.heap.size := World.block_lt_of_cell? _ _ m0
  obtain ⟨i0, hi, hz0, hz1, hz2⟩ := info_parts infoI
  clear hI hR hF hD hS fX fF lF hRR m0 mm
  go_enter Tryz.func36, Tryz.ntmps36
  go_wp2_with fail
  refine CB.out.mono ?_
  rintro e w1 ⟨rfl, d1, rfl⟩
  have be2 := below_drewN (Below.refl w.heap.size w) d1
  cases h1 : (mineB J xs && fansB fs)
  · have HG : Hid (R = ([], 1)) := Lib.hid (by rw [HR.out]; unfold tableF; rw [h1]; rfl)
    rw [baseF_one.2 h1]
    clear h1
    go_wp2_with fail
    go_ret2
    refine ⟨.slice none 0 0, ret_vi (by rw [HG.out]), ?_, be2⟩
    rw [HG.out]; exact Own.nil_ _ _
  have H1 := Lib.hid h1
  have hx24 : xs.length ≤ 24 := by
    have h := h1
    rw [Bool.and_eq_true] at h
    have := (mineB_bd h.1).2.1; omega
  have hnb : (baseF J xs rs fs dr st tol rds aw 0 == 1) = false := by
    rw [beq_eq_false_iff_ne]
    intro h
    rw [baseF_one.1 h] at h1
    cases h1
  clear h1 CB
  generalize baseF J xs rs fs dr st tol rds aw 0 = bc at *
  cases h3 : inB sp 1 100000
  · have HG : Hid (R = ([], 2)) := Lib.hid (by rw [HR.out]; unfold tableF; rw [H1.out, h3]; rfl)
    go_wp2_with (go_at_call 67; refine (l00In_any _ _ _ _).mono ?_; rintro e w' ⟨rfl, rfl⟩)
    go_ret2
    refine ⟨.slice none 0 0, ret_vi (by rw [HG.out]), ?_, be2⟩
    rw [HG.out]; exact Own.nil_ _ _
  obtain ⟨sp0, sp1⟩ := inB_iff.1 h3
  cases h4 : inB ct 1 20
  · have HG : Hid (R = ([], 2)) := Lib.hid (by rw [HR.out]; unfold tableF; rw [H1.out, h3, h4]; rfl)
    go_wp2_with (go_at_call 67; refine (l00In_any _ _ _ _).mono ?_; rintro e w' ⟨rfl, rfl⟩)
    go_ret2
    refine ⟨.slice none 0 0, ret_vi (by rw [HG.out]), ?_, be2⟩
    rw [HG.out]; exact Own.nil_ _ _
  obtain ⟨ct0, ct1⟩ := inB_iff.1 h4
  have hpm := mul_le (a := sp) (b := ct) (A := 100000) (B := 20) (by omega) sp1 (by omega) ct1
  have hpg := mul_ge (a := sp) (b := ct) (by omega) (by omega)
  by_cases h5 : sp * ct ≤ 100000
  rotate_left
  · have HG : Hid (R = ([], 2)) := Lib.hid (by rw [HR.out]; unfold tableF; rw [H1.out, h3, h4, decide_eq_false h5]; rfl)
    go_wp2_with (go_at_call 67; refine (l00In_any _ _ _ _).mono ?_; rintro e w' ⟨rfl, rfl⟩)
    go_ret2
    refine ⟨.slice none 0 0, ret_vi (by rw [HG.out]), ?_, be2⟩
    rw [HG.out]; exact Own.nil_ _ _
  have HRT : Hid (R = if (fireF J xs rs fs dr st tol rds aw 0).2.2 = 0 then tabR (fun n => fireF J xs rs fs dr st tol rds aw (n * sp)) (fireF J xs rs fs dr st tol rds aw 0).1 ct.toNat 1 (List.replicate xs.length 0) else ([], (fireF J xs rs fs dr st tol rds aw 0).2.2)) := Lib.hid (by rw [HR.out]; unfold tableF; rw [H1.out, h3, h4, decide_eq_true h5]; rfl)
  go_wp2_with (go_at_call 67; refine (l00In_any _ _ _ _).mono ?_; rintro e w' ⟨rfl, rfl⟩)
  clear h3 h4 hnb
  refine (CF.out 0 _ be2).mono ?_
  rintro e w3 ⟨u3, rfl, ho3, hb3⟩
  have be3 := be2.trans (hb3.mono be2.size)
  have HLB := Lib.hid (fun h => fireF_len (J := J) (xs := xs) (rs := rs) (fs := fs) (dr := dr) (st := st) (tol := tol) (rds := rds) (aw := aw) (am := 0) h)
  generalize fireF J xs rs fs dr st tol rds aw 0 = f0 at *
  obtain ⟨bf, er, c0⟩ := f0
  dsimp only at *
  by_cases hc0 : c0 = 0
  rotate_left
  · have HG : Hid (R = ([], c0)) := Lib.hid (by rw [HRT.out, if_neg hc0])
    have hcb : (c0 != 0) = true := by simpa using hc0
    clear hc0
    go_wp2_with fail
    go_ret2
    refine ⟨.slice none 0 0, ret_vi (by rw [HG.out]), ?_, be3⟩
    rw [HG.out]; exact Own.nil_ _ _
  subst hc0
  have hbl := HLB.out rfl
  obtain ⟨AB, cb, hv, -, -⟩ := ho3.slice
  rw [hbl] at hv
  subst hv
  have HG : Hid (R = tabR (fun n => fireF J xs rs fs dr st tol rds aw (n * sp)) bf ct.toNat 1 (List.replicate xs.length 0)) := Lib.hid (by rw [HRT.out, if_pos rfl])
  have JB := Lib.hid ho3.ints
  have HBL := Lib.hid hbl
  have hbb : i0.bytes * xs.length ≤ 281474976710656 := by rw [hz2]; omega
  have hmx : xs.length ≤ maxLen := le_max (by omega)
  have be3' := Lib.hid be3
  clear ho3 hbl HLB HRT HR
  go_wp2_with (at_make; refine wpList_make_full _ rfl (.tmp 75) (.tmp 75) 25 rfl w3.heap.size 2 i0 (.int .i64 0) 1 Tryz.underlying25 hi hz0 hz1 .i64 .i64 (xs.length : Int) (xs.length : Int) xs.length rfl rfl rfl rfl hbb hmx (Nat.le_refl _) ?_; intro w4 hown hgr)
  have hbe4 : Below w3.heap.size w3 w4 := (Below.refl _ _).grown hgr (Nat.le_refl _) (fun k hk => by cases hk)
  have HO : Hid (w4.ownsRow w3.heap.size 2 1 (.slice (some ⟨w3.heap.size, 0, none⟩) xs.length xs.length) xs.length (vals (List.replicate xs.length 0))) := Lib.hid (by
    have e : (madeCells (Value.int .i64 0).cells (xs.length * 1)).toList = vals (List.replicate xs.length (0 : Int)) := by
      unfold vals
      rw [Nat.mul_one, List.map_replicate]
      exact toList_madeCells_one _ _
    rw [e] at hown
    exact hown)
  have hg34 : w3.heap.size < w4.heap.size := (World.ownsRow.lt HO.out _ rfl).2
  clear hown hgr hbb hmx hi hz0 hz1 hz2
  go_wp2_with fail
  go_loopw [27] (fun ss wr => ∃ (r : Nat) (n : Int) (tb : List Int), ss = .int .i64 n ∧ 1 ≤ n ∧ n + r = ct + 1 ∧ Below w3.heap.size w3 wr ∧ wr.ownsRow w3.heap.size 2 1 (.slice (some ⟨w3.heap.size, 0, none⟩) xs.length xs.length) xs.length (vals tb) ∧ tb.length = xs.length ∧ R = tabR (fun n => fireF J xs rs fs dr st tol rds aw (n * sp)) bf r n tb) (fun ss _ => (ct + 1 - intOf ss).toNat)
  case atStart => exact ⟨ct.toNat, 1, _, rfl, by omega, by omega, hbe4, HO.out, by simp, HG.out⟩
  case round =>
    clear HG HO
    obtain ⟨r, n, tb, rfl, n1, hnr, hbw, hrow, htl, hR⟩ := hrel
    have HTL := Lib.hid htl
    have HROW := Lib.hid hrow
    have HRr := Lib.hid hR
    have bew := be3'.out.trans (hbw.mono be3'.out.size)
    have hgw : w3.heap.size < wr.heap.size := (World.ownsRow.lt hrow _ rfl).2
    clear hrow htl hR
    by_cases hnc : n ≤ ct
    rotate_left
    · obtain rfl : r = 0 := by omega
      have HZ : Hid (R = (tb, 0)) := Lib.hid HRr.out
      go_wp2_with fail
      go_ret2
      refine ⟨_, ret_vi (by rw [HZ.out]), ?_, bew⟩
      rw [HZ.out]
      exact Own.of_row HROW.out HTL.out be3'.out.size
    obtain ⟨r', rfl⟩ : ∃ r', r = r' + 1 := ⟨r - 1, by omega⟩
    have hm := sp_mul n1 hnc sp0 h5
    go_wp2_with fail
    refine (CF.out (n * sp) _ bew).mono ?_
    rintro e w5 ⟨u5, rfl, ho5, hb5⟩
    have HLA := Lib.hid (fun h => fireF_len (J := J) (xs := xs) (rs := rs) (fs := fs) (dr := dr) (st := st) (tol := tol) (rds := rds) (aw := aw) (am := n * sp) h)
    have HRS : Hid (R = if (fireF J xs rs fs dr st tol rds aw (n * sp)).2.2 = 0 then tabR (fun n => fireF J xs rs fs dr st tol rds aw (n * sp)) bf r' (n + 1) (turnK bf (fireF J xs rs fs dr st tol rds aw (n * sp)).1 n tb tb.length) else ([], (fireF J xs rs fs dr st tol rds aw (n * sp)).2.2)) := Lib.hid HRr.out
    have bew5 := bew.trans (hb5.mono bew.size)
    have hbw5 := hbw.trans (hb5.mono hbw.size)
    clear HRr
    generalize fireF J xs rs fs dr st tol rds aw (n * sp) = f5 at *
    obtain ⟨af, er5, c5⟩ := f5
    dsimp only at *
    by_cases hc5 : c5 = 0
    rotate_left
    · have HG : Hid (R = ([], c5)) := Lib.hid (by rw [HRS.out, if_neg hc5])
      have hcb : (c5 != 0) = true := by simpa using hc5
      clear hc5
      go_wp2_with fail
      go_ret2
      refine ⟨.slice none 0 0, ret_vi (by rw [HG.out]), ?_, bew5⟩
      rw [HG.out]; exact Own.nil_ _ _
    subst hc5
    have hal := HLA.out rfl
    obtain ⟨AA, ca, hv, -, hat⟩ := ho5.slice
    rw [hal] at hv
    subst hv
    have HAL := Lib.hid hal
    have JA := Lib.hid ho5.ints
    have HAT := Lib.hid (fun ad (h : AA = some ad) => (hat ad h).2.1)
    have HG : Hid (R = tabR (fun n => fireF J xs rs fs dr st tol rds aw (n * sp)) bf r' (n + 1) (turnK bf af n tb xs.length)) := Lib.hid (by rw [HRS.out, if_pos rfl, HTL.out])
    have HROW5 := Lib.hid (row_on HROW.out hb5)
    clear ho5 hat hal HLA HRS
    go_wp2_with fail
    go_loopw [31] (fun ii wx => ∃ k : Nat, k ≤ xs.length ∧ ii = .int .i64 k ∧ wx.ownsRow w3.heap.size 2 1 (.slice (some ⟨w3.heap.size, 0, none⟩) xs.length xs.length) xs.length (vals (turnK bf af n tb k)) ∧ w5.grownBy wx (some w3.heap.size)) (fun ii _ => xs.length - (intOf ii).toNat)
    case atStart => exact ⟨0, Nat.zero_le _, rfl, HROW5.out, World.grownBy.refl _ _⟩
    case round =>
      obtain ⟨k, hk, rfl, hr, hg⟩ := hrel
      have hbx : Below w3.heap.size w3 wr := hbw5.grown hg hbw5.size (fun j hj => by injection hj with hj; omega)
      have HR5 := Lib.hid hr
      have HGX := Lib.hid hg
      by_cases hlt : k < xs.length
      · have hlen : (turnK bf af n tb k).length = xs.length := (turnK_length _ _ _ _ _).trans HTL.out
        have hct := row_cell hr hlen hlt
        have hft := row_free hr k
        obtain ⟨adb, rfl, hbb, hcb⟩ := (JB.out.below hbx).atD (k := k) (by have := HBL.out; omega)
        obtain ⟨ada, rfl, haa, hca0⟩ := JA.out.atD (k := k) (by have := HAL.out; omega)
        have hca := hg.cell hca0 (fun e => by rw [block_add] at e; injection e with e; have := HAT.out ada rfl; omega)
        have HST : Hid (turnK bf af n tb (k + 1) = if (turnK bf af n tb k).getD k 0 = 0 ∧ opsB (bf.getD k 0) (af.getD k 0) = true then (turnK bf af n tb k).set k n else turnK bf af n tb k) := Lib.hid rfl
        have HOP := Lib.hid (fun W => oppo_s (bf.getD k 0) (af.getD k 0) W)
        clear hr hg hlen hca0
        generalize turnK bf af n tb k = D at *
        generalize D.getD k 0 = x at *
        generalize bf.getD k 0 = y at *
        generalize af.getD k 0 = z at *
        generalize opsB y z = ob at *
        have j0 : (0 : Int) ≤ (k : Int) := by omega
        have j1 : (k : Int) < xs.length := by omega
        by_cases hx0 : x = 0
        · subst hx0
          cases ob
          · have HS2 := Lib.hid (show turnK bf af n tb (k + 1) = D by rw [HST.out, if_neg (by simp)])
            go_wp2_with fail
            go_big_quiet ((go_at_call 68; first | (with_reducible exact quiet_s (HOP.out _)) | (with_reducible exact quiet_s2 (HOP.out _))))
            have HR7 := Lib.hid (drewN_row HR5.out nq)
            have HG7 := Lib.hid (HGX.out.trans (Below.grownBy (below_drewN (Below.refl _ _) nq) _))
            go_wp2_with fail
            go_roundw
            case rel => exact ⟨k + 1, by omega, by go_num, by rw [HS2.out]; exact HR7.out, HG7.out⟩
            case measure => simp [intOf]; omega
          · have HS2 := Lib.hid (show turnK bf af n tb (k + 1) = D.set k n by rw [HST.out, if_pos ⟨rfl, rfl⟩])
            go_wp2_with fail
            go_big_quiet ((go_at_call 68; first | (with_reducible exact quiet_s (HOP.out _)) | (with_reducible exact quiet_s2 (HOP.out _))))
            have HR7 := Lib.hid (drewN_row HR5.out nq)
            have HG7 := Lib.hid (HGX.out.trans (Below.grownBy (below_drewN (Below.refl _ _) nq) _))
            go_wp2_with fail
            go_roundw
            case rel =>
              obtain ⟨r1, r2⟩ := World.ownsRow.stored HR7.out k (.int .i64 n)
              rw [vals_set] at r1
              exact ⟨k + 1, by omega, by go_num, by rw [HS2.out]; exact r1, HG7.out.trans r2⟩
            case measure => simp [intOf]; omega
        · have HS2 := Lib.hid (show turnK bf af n tb (k + 1) = D by rw [HST.out, if_neg (fun h => hx0 h.1)])
          have hxb : (x == 0) = false := by simpa using hx0
          clear hx0
          go_wp2_with fail
          go_big_quiet ((go_at_call 68; first | (with_reducible exact quiet_s (HOP.out _)) | (with_reducible exact quiet_s2 (HOP.out _))))
          have HR7 := Lib.hid (drewN_row HR5.out nq)
          have HG7 := Lib.hid (HGX.out.trans (Below.grownBy (below_drewN (Below.refl _ _) nq) _))
          go_wp2_with fail
          go_roundw
          case rel => exact ⟨k + 1, by omega, by go_num, by rw [HS2.out]; exact HR7.out, HG7.out⟩
          case measure => simp [intOf]; omega
      · obtain rfl : k = xs.length := by omega
        clear hr hg
        go_wp2_with fail
        go_roundw
        case rel => exact ⟨r', n + 1, _, rfl, by omega, by omega, hbx, HR5.out, (turnK_length _ _ _ _ _).trans HTL.out, HG.out⟩
        case measure => simp [intOf]; omega
set_option maxRecDepth 100000 in
theorem ReversalTable_s (J : Int) (A : Option Addr) (cp : Nat) (xs : List Aw) (AR : Option Addr) (cr : Nat) (rs : List Int) (AF : Option Addr) (cf : Nat) (fs : List Fa) (AD : Option Addr) (cd : Nat) (dr : List Int) (AS : Option Addr) (cs : Nat) (st : List Int) (tol rds : Int) (aw sp ct : Int) (w : World) (hxl : (xs.length : Int) ≤ 1048576) (hrl : rs.length ≤ 1048576) (hfl : fs.length ≤ 1048576) (hdl : dr.length ≤ 1048576) (hsl : st.length ≤ 1048576) (fX : FitsA xs) (fF : FitsF fs) (lF : FansLen fs) (hI : Recs encA 7 w.heap.size w A xs) (hR : Ints w.heap.size w AR rs) (hF : Fns w.heap.size w AF fs) (hD : Ints w.heap.size w AD dr) (hS : Ints w.heap.size w AS st) :
    Calls Tryz.prog 17 #[.agg #[.int .i64 J, .slice A xs.length cp], .slice AR rs.length cr, .slice AF fs.length cf, .slice AD dr.length cd, .slice AS st.length cs, .int .i64 tol, .int .i64 rds, .int .i64 aw, .int .i64 sp, .int .i64 ct] w fun e w' => ∃ u, e = .returned (.tuple #[u, .int .i64 (tableF J xs rs fs dr st tol rds aw sp ct).2]) ∧ Own w.heap.size w' u (tableF J xs rs fs dr st tol rds aw sp ct).1 ∧ Below w.heap.size w w' := by
  have be0 : Below w.heap.size w (w.alloc (.cells #[.int .i64 J, .slice A xs.length cp] 33)) := by go_grown
  have k0 : ((w.alloc (.cells #[.int .i64 J, .slice A xs.length cp] 33))).cell? ⟨w.heap.size, 0, none⟩ = some (.int .i64 J) := by go_simp
  have k1 : ((w.alloc (.cells #[.int .i64 J, .slice A xs.length cp] 33))).cell? ⟨w.heap.size, 1, none⟩ = some (.slice A xs.length cp) := by go_simp
  have CF := Lib.hid (l18Table_any w.heap.size 0 J A cp xs AR cr rs AF cf fs AD cd dr AS cs st tol rds aw sp ct (w.alloc (.cells #[.int .i64 J, .slice A xs.length cp] 33)) hxl hrl hfl hdl hsl fX fF lF ((hI.below be0).more be0.size) ((hR.below be0).more be0.size) ((hF.below be0).more be0.size) ((hD.below be0).more be0.size) ((hS.below be0).more be0.size) k0 k1)
  clear hI hR hF hD hS fX fF lF k0 k1
  generalize tableF J xs rs fs dr st tol rds aw sp ct = R at *
  go_enter Tryz.func17, Tryz.ntmps17
  go_wp2_with fail
  refine CF.out.mono ?_
  rintro e w1 ⟨u, rfl, ho, hb⟩
  have HO := Lib.hid ho
  clear ho
  go_wp2_with fail
  go_ret2
  exact ⟨u, rfl, HO.out.base (fun g hg => Nat.le_trans be0.size (World.ownsRow.lt HO.out g hg).1), be0.trans (hb.mono be0.size)⟩
end Go.Proofs.YtejkoicgbgoiaaaGreat

/- What the marks of one list leave alone; how long the lists of flows are. Conditions: the facts that each theorem names. -/
namespace Go.Proofs.YtejkoicgbgoiaaaGreat
open Go.RowKit
open Pl
theorem WInts.same {L H : Nat} {w w' : World} {A : Option Addr} {n : Nat} (h : WInts L H w A n) (hs : ∀ k, L ≤ k → k < H → w'.heap[k]? = w.heap[k]?) : WInts L H w' A n := by
  intro hn
  obtain ⟨g, e, h1, h2, hc⟩ := h hn
  refine ⟨g, e, h1, h2, fun j hj => ?_⟩
  obtain ⟨⟨y, k0⟩, k1⟩ := hc j hj
  exact ⟨⟨y, (World.cell?_of_block (a := ⟨g, j, none⟩) (hs g h1 h2)).trans k0⟩, (World.frozen?_of_block (a := ⟨g, j, none⟩) (hs g h1 h2)).trans k1⟩
theorem WNest.same {L H : Nat} {w w' : World} {A : Option Addr} {xss : List (List Int)} (h : WNest L H w A xss) (hs : ∀ k, L ≤ k → k < H → w'.heap[k]? = w.heap[k]?) : WNest L H w' A xss := by
  intro hn
  obtain ⟨b, o, e, h1, h2, hc⟩ := h hn
  refine ⟨b, o, e, h1, h2, fun k hk => ?_⟩
  obtain ⟨A', c, k0, k1⟩ := hc k hk
  exact ⟨A', c, (World.cell?_of_block (a := ⟨b, o + k, none⟩) (hs b h1 h2)).trans k0, k1.same hs⟩
theorem WFans.same {L H : Nat} {w w' : World} {A : Option Addr} {xs : List Fa} (h : WFans L H w A xs) (hs : ∀ k, L ≤ k → k < H → w'.heap[k]? = w.heap[k]?) : WFans L H w' A xs := by
  intro hn
  obtain ⟨b, e, h1, h2, hc⟩ := h hn
  refine ⟨b, e, h1, h2, fun k hk => ?_⟩
  obtain ⟨⟨s, k0⟩, ⟨y, k1⟩, f0, f1, A', c, k2, k3⟩ := hc k hk
  exact ⟨⟨s, (World.cell?_of_block (a := ⟨b, k * 3, none⟩) (hs b h1 h2)).trans k0⟩, ⟨y, (World.cell?_of_block (a := ⟨b, k * 3 + 1, none⟩) (hs b h1 h2)).trans k1⟩, (World.frozen?_of_block (a := ⟨b, k * 3, none⟩) (hs b h1 h2)).trans f0, (World.frozen?_of_block (a := ⟨b, k * 3 + 1, none⟩) (hs b h1 h2)).trans f1, A', c, (World.cell?_of_block (a := ⟨b, k * 3 + 2, none⟩) (hs b h1 h2)).trans k2, k3.same hs⟩
theorem WFans.kept {L H : Nat} {w w' : World} {A : Option Addr} {xs : List Fa} {row : Option Nat} (h : WFans L H w A xs) (hg : w.grownBy w' row) (hH : H ≤ w.heap.size) (hne : ∀ g, row = some g → g < L ∨ H ≤ g) : WFans L H w' A xs :=
  h.same fun k h1 h2 => hg.block k (by omega) (fun e => by have := hne k e.symm; omega)
theorem szA_or3 (xs0 : List Aw) : szA xs0 1048576 < 0 ∨ (0 ≤ szA xs0 1048576 ∧ szA xs0 1048576 ≤ 1048576 ∧ (xs0.length : Int) ≤ 1048576) := by
  have := idLen_nonneg xs0 xs0.length
  unfold szA
  split <;> omega
theorem apart_of {v v' : Value} {a b c d : Nat} (h : ∀ g, v.ownBlock = some g → a ≤ g ∧ g < b) (h' : ∀ g, v'.ownBlock = some g → c ≤ g ∧ g < d) (hs : b ≤ c ∨ d ≤ a) : v.ownBlock = none ∨ v.ownBlock ≠ v'.ownBlock := by
  cases e : v.ownBlock with
  | none => exact .inl rfl
  | some g =>
    refine .inr fun e' => ?_
    have a := h g e
    have c := h' g e'.symm
    omega
theorem Own.zone {base L H a b : Nat} {w w' : World} {v : Value} {xs : List Int} (h : Own base w v xs) (z : Zone L H w w') (u : ∀ g, v.ownBlock = some g → a ≤ g ∧ g < b) (hs : b ≤ L ∨ H ≤ a) : Own base w' v xs := by
  unfold Own at h ⊢
  refine ⟨h.1, ?_⟩
  rcases h.2 with hn | ⟨g, cap, cur, e1, e2, e3, rest⟩
  · exact .inl hn
  · have hl := World.ownsRow.lt h g (by rw [e1]; rfl)
    have hu := u g (by rw [e1]; rfl)
    exact .inr ⟨g, cap, cur, e1, e2, (z.block g hl.2 (by omega)).trans e3, rest⟩
theorem solveR_le {rs dr : List Int} {fs : List Fa} {ms : List (List Int)} {tol : Int} : ∀ (n : Nat) {fl : List Int}, (solveR rs dr fs ms tol n fl).1.length ≤ fl.length
  | 0, fl => by
    rw [solveR_zero]
    split <;> simp
  | n + 1, fl => by
    by_cases hc : worstL (errsL rs (pushF fs fl dr) fl ms) ≤ tol
    · rw [solveR_yes hc]; exact Nat.le_refl _
    · cases hp : passK rs dr fs ms fl with
      | none => rw [solveR_bad hc hp]; simp
      | some fl' =>
        rw [solveR_go hc hp]
        have := solveR_le (rs := rs) (dr := dr) (fs := fs) (ms := ms) (tol := tol) n (fl := fl')
        rw [passK_len hp] at this
        exact this
theorem solveF_le {J : Int} {xs : List Aw} {rs : List Int} {fs : List Fa} {dr st : List Int} {tol rds : Int} : (solveF J xs rs fs dr st tol rds).1.length ≤ xs.length := by
  unfold solveF
  split
  · split
    · split
      · rename_i h3
        split
        · refine Nat.le_trans (solveR_le _) ?_
          unfold sysB at h3
          simp only [Bool.and_eq_true] at h3
          exact Nat.le_of_eq (lstN_iff.1 h3.1.2.2).1
        · simp
      · simp
    · simp
  · simp
theorem fireF_le {J : Int} {xs : List Aw} {rs : List Int} {fs : List Fa} {dr st : List Int} {tol rds aw am : Int} : (fireF J xs rs fs dr st tol rds aw am).1.length ≤ xs.length := by
  unfold fireF
  split
  · exact solveF_le
  · simp
end Go.Proofs.YtejkoicgbgoiaaaGreat
