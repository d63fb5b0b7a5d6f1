/- The least push that is enough: the program's and the reference's. Conditions: the facts on memory and on lengths that each theorem names. -/
import Derived.Test.YtlgagnbnjfneaaaPotF
import Derived.Test.YtlgagnbnjfneaaaOwnS
import Derived.Test.YtlgagnbnjfneaaaHof
import Derived.Test.YtlgagnbnjfneaaaFirst
namespace Go.Proofs.Ytlgagnbnjfneaaa
open Go.RowKit
open Pl
/-- The gains with some more push in an airway; whether potentials fit. -/
def pushG (gs : List Int) (a : Nat) (n : Int) : List Int := gs.set a (gs.getD a 0 + n)
def canP (J : Int) (xs : List Aw) (gs : List Int) (rs : List Bool) (a : Nat) (n : Int) : Bool := (fitF xs (pushG gs a n) rs J).isSome
theorem pushG_length (gs : List Int) (a : Nat) (n : Int) : (pushG gs a n).length = gs.length := by unfold pushG; simp
theorem pushG_at {gs : List Int} {a : Nat} (n : Int) (h : a < gs.length) (k : Nat) : (pushG gs a n).getD k 0 = if k = a then gs.getD a 0 + n else gs.getD k 0 := getD_set gs a k _ h
theorem canP_mono {J : Int} {xs : List Aw} {gs : List Int} {rs : List Bool} {a : Nat} (hm : mineB J xs = true) (ha : a < gs.length) (hr : rs.getD a false = true) {m n : Int} (hmn : m ≤ n) (h : canP J xs gs rs a m = true) : canP J xs gs rs a n = true := by
  obtain ⟨⟨j1, _⟩, _, _⟩ := mineB_bd hm
  obtain ⟨hE, _⟩ := mineB_ends hm
  unfold canP at h ⊢
  rw [fitF_iff j1 hE] at h ⊢
  refine Can.more hr (fun k => ?_) (fun k hk => ?_) h
  · rw [pushG_at m ha, pushG_at n ha]; split <;> omega
  · rw [pushG_at m ha, pushG_at n ha, if_neg hk, if_neg hk]
def lpK (J : Int) (xs : List Aw) (gs : List Int) (rs : List Bool) (a : Nat) : Int := firstFrom (canP J xs gs rs a) 0 20001
theorem lpK_spec {J : Int} {xs : List Aw} {gs : List Int} {rs : List Bool} {a : Nat} (hm : mineB J xs = true) (ha : a < gs.length) (hr : rs.getD a false = true) :
    0 ≤ lpK J xs gs rs a ∧ lpK J xs gs rs a ≤ 20001 ∧ ∀ x, 0 ≤ x → x ≤ 20000 → (lpK J xs gs rs a ≤ x ↔ canP J xs gs rs a x = true) := by
  unfold lpK
  generalize hN : (20001 : Nat) = N
  obtain ⟨b, c, d, e⟩ := firstFrom_spec (canP J xs gs rs a) N 0
  refine ⟨b, by omega, fun x h1 h2 => ⟨fun h => ?_, fun h => ?_⟩⟩
  · exact canP_mono hm ha hr h (e (by omega))
  · by_cases hh : firstFrom (canP J xs gs rs a) 0 N ≤ x
    · exact hh
    · have := d x h1 (by omega)
      rw [h] at this; cases this
noncomputable def lpF (J : Int) (xs : List Aw) (ds ps : List Int) (rs : List Bool) (a : Int) : Int × Int :=
  if codeF J xs ds ps rs = 0 then (if inB a 0 ((xs.length : Int) - 1) then (if rs.getD a.toNat false then (cond (decide (lpK J xs (gainL ps ds) rs a.toNat ≤ 20000)) (lpK J xs (gainL ps ds) rs a.toNat) 0, cond (decide (lpK J xs (gainL ps ds) rs a.toNat ≤ 20000)) 0 3) else (0, 6)) else (0, 2)) else (0, codeF J xs ds ps rs)
set_option maxRecDepth 100000 in
set_option maxHeartbeats 3200000 in
theorem fits_any (N : Nat) (A : Option Addr) (cp : Nat) (xs : List Aw) (AG : Option Addr) (cg : Nat) (gs : List Int) (A3 : Option Addr) (c3 : Nat) (rs : List Bool) (ba : Nat) (a : Nat) (n : Int) (w : World) (hI : Recs encA 7 w.heap.size w A xs) (hm : mineB (N : Int) xs = true)
    (hG : Ints w.heap.size w AG gs) (lg : gs.length = xs.length) (hg : ∀ k, k < xs.length → -1020000 ≤ gs.getD k 0 ∧ gs.getD k 0 ≤ 1020000) (hR : Bools w.heap.size w A3 rs) (lr : rs.length = xs.length) (ha : a < xs.length) (n1 : 0 ≤ n) (n2 : n ≤ 20000)
    (hc : w.cell? ⟨ba, 0, none⟩ = some (.int .i64 (a : Int))) :
    Calls Try.prog 66 #[.agg #[.int .i64 (N : Int), .slice A xs.length cp, .slice AG gs.length cg, .slice A3 rs.length c3], .slice (some ⟨ba, 0, none⟩) 1 1, .int .i64 n] w fun e w' => e = .returned (.bool (canP (N : Int) xs gs rs a n)) ∧ Below w.heap.size w w' := by
  have hxn : xs.length ≤ 24 := by have := (mineB_bd hm).2.1; omega
  have HC := Lib.hid (fun (W : World) (hb : Below w.heap.size w W) => Clone_any AG cg gs w.heap.size W (by omega) (hG.below hb))
  have HP := Lib.hid (fun (AV : Option Addr) (cv : Nat) (W : World) (hb : Below w.heap.size w W) (hV : Ints W.heap.size W AV (pushG gs a n)) => potentials_any N A cp xs AV cv (pushG gs a n) A3 c3 rs W ((hI.below hb).more hb.size) hm hV ((pushG_length _ _ _).trans lg) (fun k hk => by rw [pushG_at n (by omega)]; have := hg k hk; have := hg a ha; split <;> omega) ((hR.below hb).more hb.size) lr)
  have HL := Lib.hid lg
  obtain ⟨q1, q2⟩ := hg a ha
  have hal : (a : Int) < gs.length := by omega
  have ha0 : (0 : Int) ≤ (a : Int) := by omega
  have hag : a < gs.length := by omega
  clear hI hm hG hg hR lr lg
  have be0 : Below w.heap.size w (w.alloc (.cells #[.int .i64 (N : Int), .slice A xs.length cp, .slice AG gs.length cg, .slice A3 rs.length c3] 85)) := by go_grown
  have b0_0 : (w.alloc (.cells #[.int .i64 (N : Int), .slice A xs.length cp, .slice AG gs.length cg, .slice A3 rs.length c3] 85)).cell? ⟨w.heap.size, 0, none⟩ = some (.int .i64 (N : Int)) := by go_simp
  have b1_0 : (w.alloc (.cells #[.int .i64 (N : Int), .slice A xs.length cp, .slice AG gs.length cg, .slice A3 rs.length c3] 85)).cell? ⟨w.heap.size, 1, none⟩ = some (.slice A xs.length cp) := by go_simp
  have b2_0 : (w.alloc (.cells #[.int .i64 (N : Int), .slice A xs.length cp, .slice AG gs.length cg, .slice A3 rs.length c3] 85)).cell? ⟨w.heap.size, 2, none⟩ = some (.slice AG gs.length cg) := by go_simp
  have b3_0 : (w.alloc (.cells #[.int .i64 (N : Int), .slice A xs.length cp, .slice AG gs.length cg, .slice A3 rs.length c3] 85)).cell? ⟨w.heap.size, 3, none⟩ = some (.slice A3 rs.length c3) := by go_simp
  have fz : ∀ i, (w.alloc (.cells #[.int .i64 (N : Int), .slice A xs.length cp, .slice AG gs.length cg, .slice A3 rs.length c3] 85)).frozen? ⟨w.heap.size, i, none⟩ = false := fun i => by go_simp
  have FZ := Lib.hid fz
  have hc_0 : (w.alloc (.cells #[.int .i64 (N : Int), .slice A xs.length cp, .slice AG gs.length cg, .slice A3 rs.length c3] 85)).cell? ⟨ba, 0, none⟩ = some (.int .i64 (a : Int)) := Lib.cell?_alloc_some _ hc
  have hba : ba < w.heap.size := World.block_lt_of_cell? _ _ hc
  clear fz hc
  go_enter Try.func66, Try.ntmps66
  go_wp2_with fail
  generalize w.alloc (.cells #[.int .i64 (N : Int), .slice A xs.length cp, .slice AG gs.length cg, .slice A3 rs.length c3] 85) = w0 at *
  have sz0 : w.heap.size < w0.heap.size := World.block_lt_of_cell? _ _ b0_0
  refine (HC.out _ be0).mono ?_
  rintro e w1 ⟨v, rfl, ho, hb1⟩
  have be1 := be0.trans (hb1.mono be0.size)
  have b0 := cell_later hb1 b0_0
  have b1 := cell_later hb1 b1_0
  have b2 := cell_later hb1 b2_0
  have b3 := cell_later hb1 b3_0
  have hca := cell_later hb1 hc_0
  have kf := froz_all hb1 b0_0 FZ.out
  obtain ⟨AV, cv, rfl, -, -⟩ := ho.slice
  obtain ⟨g, rfl, hg1, hrow⟩ := ho.row (n := gs.length) (by omega) rfl
  clear b0_0 b1_0 b2_0 b3_0 hc_0 FZ ho HC
  have hco : w1.cell? ⟨g, a, none⟩ = some (.int .i64 (gs.getD a 0)) := by
    rw [World.ownsRow.cellAt hrow a (by omega), vals_get hag, getD_pt hag]
  have hfz : w1.frozen? ⟨g, a, none⟩ = false := World.ownsRow.frozenAt hrow a
  have HO := Lib.hid hrow
  have hgw : ¬ g = w.heap.size := by omega
  have hgw' : ¬ w.heap.size = g := by omega
  have hgb : ¬ g = ba := by omega
  have hgb' : ¬ ba = g := by omega
  have hbw : ¬ ba = w.heap.size := by omega
  have hbw' : ¬ w.heap.size = ba := by omega
  have HS : Hid (gs.set a (gs.getD a 0 + n) = pushG gs a n) := Lib.hid rfl
  clear hrow
  generalize gs.getD a 0 = x at *
  have hbe : Below w.heap.size w ((w1.setCell ⟨w.heap.size, 2, none⟩ (.slice (some ⟨g, 0, none⟩) gs.length cv)).setCell ⟨g, a, none⟩ (.int .i64 (x + n))) := (be1.setCell (by simp) _).setCell (by simp; omega) _
  have hV : Ints ((w1.setCell ⟨w.heap.size, 2, none⟩ (.slice (some ⟨g, 0, none⟩) gs.length cv)).setCell ⟨g, a, none⟩ (.int .i64 (x + n))).heap.size ((w1.setCell ⟨w.heap.size, 2, none⟩ (.slice (some ⟨g, 0, none⟩) gs.length cv)).setCell ⟨g, a, none⟩ (.int .i64 (x + n))) (some ⟨g, 0, none⟩) (pushG gs a n) := by
    have h1 := ownsRow_setCell_below HO.out (a := ⟨w.heap.size, 2, none⟩) (by simp; omega) (.slice (some ⟨g, 0, none⟩) gs.length cv)
    obtain ⟨h2, _⟩ := World.ownsRow.stored h1 a (.int .i64 (x + n))
    rw [vals_set, HS.out] at h2
    exact (Own.of_row h2 (pushG_length _ _ _) hg1).ints
  have HQ := Lib.hid (HP.out (some ⟨g, 0, none⟩) cv _ hbe hV)
  rw [pushG_length] at HQ
  have HB := Lib.hid hbe
  clear hV hbe
  go_wp2_with fail
  refine wp_loop_rounds 2 ?_
  rw [rounds_succ]
  go_wp2_with fail
  rw [rounds_succ]
  go_wp2_with fail
  refine HQ.out.mono ?_
  rintro e w4 ⟨v4, rfl, _, hb4⟩
  go_wp2_with fail
  go_ret
  exact ⟨rfl, HB.out.trans (hb4.mono HB.out.size)⟩
set_option maxRecDepth 100000 in
set_option maxHeartbeats 1600000 in
theorem lp1_any (N : Nat) (A : Option Addr) (cp : Nat) (xs : List Aw) (AG : Option Addr) (cg : Nat) (gs : List Int) (A3 : Option Addr) (c3 : Nat) (rs : List Bool) (bb bi : Nat) (a : Nat) (n : Int) (w : World) (hI : Recs encA 7 w.heap.size w A xs) (hm : mineB (N : Int) xs = true)
    (hG : Ints w.heap.size w AG gs) (lg : gs.length = xs.length) (hg : ∀ k, k < xs.length → -1020000 ≤ gs.getD k 0 ∧ gs.getD k 0 ≤ 1020000) (hR : Bools w.heap.size w A3 rs) (lr : rs.length = xs.length) (ha : a < xs.length) (n1 : 0 ≤ n) (n2 : n ≤ 20000)
    (c0 : w.cell? ⟨bb, 0, none⟩ = some (.int .i64 (N : Int))) (c1 : w.cell? ⟨bb, 1, none⟩ = some (.slice A xs.length cp)) (c2 : w.cell? ⟨bb, 2, none⟩ = some (.slice AG gs.length cg)) (c4 : w.cell? ⟨bb, 3, none⟩ = some (.slice A3 rs.length c3)) (ci : w.cell? ⟨bi, 0, none⟩ = some (.int .i64 (a : Int))) :
    Calls Try.prog 65 #[.int .i64 n, .pointer (some ⟨bb, 0, none⟩), .pointer (some ⟨bi, 0, none⟩)] w fun e w' => e = .returned (.bool (canP (N : Int) xs gs rs a n)) ∧ Below w.heap.size w w' := by
  have be0 : Below w.heap.size w (w.alloc (.cells #[.int .i64 (a : Int)] 2)) := by go_grown
  have HF := Lib.hid (fits_any N A cp xs AG cg gs A3 c3 rs w.heap.size a n _ ((hI.below be0).more be0.size) hm ((hG.below be0).more be0.size) lg hg ((hR.below be0).more be0.size) lr ha n1 n2 (by go_simp))
  clear hI hm hG hg hR lr lg
  go_enter Try.func65, Try.ntmps65
  go_wp2_with fail
  refine HF.out.mono ?_
  rintro e w1 ⟨rfl, hb1⟩
  go_wp2_with fail
  go_ret
  exact ⟨rfl, be0.trans (hb1.mono be0.size)⟩
theorem lpF_no {J : Int} {xs : List Aw} {ds ps : List Int} {rs : List Bool} {a : Int} (h : codeF J xs ds ps rs ≠ 0) : lpF J xs ds ps rs a = (0, codeF J xs ds ps rs) := by unfold lpF; rw [if_neg h]
theorem lpF_two {J : Int} {xs : List Aw} {ds ps : List Int} {rs : List Bool} {a : Int} (h : codeF J xs ds ps rs = 0) (h2 : inB a 0 ((xs.length : Int) - 1) = false) : lpF J xs ds ps rs a = (0, 2) := by unfold lpF; rw [if_pos h, h2]; rfl
theorem lpF_six {J : Int} {xs : List Aw} {ds ps : List Int} {rs : List Bool} {a : Int} (h : codeF J xs ds ps rs = 0) (h2 : inB a 0 ((xs.length : Int) - 1) = true) (h3 : rs.getD a.toNat false = false) : lpF J xs ds ps rs a = (0, 6) := by unfold lpF; rw [if_pos h, h2, h3]; rfl
theorem lpF_yes {J : Int} {xs : List Aw} {ds ps : List Int} {rs : List Bool} {a : Int} (h : codeF J xs ds ps rs = 0) (h2 : inB a 0 ((xs.length : Int) - 1) = true) (h3 : rs.getD a.toNat false = true) :
    lpF J xs ds ps rs a = (cond (decide (lpK J xs (gainL ps ds) rs a.toNat ≤ 20000)) (lpK J xs (gainL ps ds) rs a.toNat) 0, cond (decide (lpK J xs (gainL ps ds) rs a.toNat ≤ 20000)) 0 3) := by unfold lpF; rw [if_pos h, h2, h3]; rfl
theorem Bools.atD {B : Nat} {w : World} {A : Option Addr} {xs : List Bool} (h : Bools B w A xs) {k : Nat} (hk : k < xs.length) : ∃ ad, A = some ad ∧ ad.block < B ∧ w.cell? (ad.add k) = some (.bool (xs.getD k false)) := by
  obtain ⟨ad, e, hb, hc⟩ := h.at_ hk
  exact ⟨ad, e, hb, by rw [hc]; simp [List.getD, hk]⟩
theorem indexValidA_any (A : Option Addr) (c n : Nat) (k : Int) (w : World) (hn : (n : Int) ≤ 1099511627776) :
    Calls Try.prog 62 #[.slice A n c, .int .i64 k] w fun e w' => e = .returned (.bool (inB k 0 ((n : Int) - 1))) ∧ w = w' := by
  go_enter Try.func62, Try.ntmps62
  go_wp2_with (go_at_call 54; refine (within_any _ _ _ _).mono ?_; rintro e w' ⟨rfl, rfl⟩)
  go_ret
  exact ⟨rfl, rfl⟩
set_option maxRecDepth 100000 in
set_option maxHeartbeats 3200000 in
theorem LeastPush_i (J : Int) (A : Option Addr) (cp : Nat) (xs : List Aw) (A1 : Option Addr) (c1 : Nat) (ds : List Int) (A2 : Option Addr) (c2 : Nat) (ps : List Int) (A3 : Option Addr) (c3 : Nat) (rs : List Bool) (a : Int) (w : World) (hx : (xs.length : Int) ≤ 1048576) (hF : FitsA xs) (hI : Recs encA 7 w.heap.size w A xs) (n1 : (ds.length : Int) ≤ 1048576) (hI1 : Ints w.heap.size w A1 ds) (hT1 : Fits ds) (n2 : (ps.length : Int) ≤ 1048576) (hI2 : Ints w.heap.size w A2 ps) (hT2 : Fits ps) (n3 : (rs.length : Int) ≤ 1048576) (hI3 : Bools w.heap.size w A3 rs) (_ : -9223372036854775808 ≤ a ∧ a ≤ 9223372036854775807) :
    Calls Try.prog 28 #[.agg #[.int .i64 J, .slice A xs.length cp], .slice A1 ds.length c1, .slice A2 ps.length c2, .slice A3 rs.length c3, .int .i64 a] w fun e w' => e = .returned (.tuple #[.int .i64 (lpF J xs ds ps rs a).1, .int .i64 (lpF J xs ds ps rs a).2]) ∧ Below w.heap.size w w' := by
  obtain ⟨R, hR⟩ : ∃ R, R = lpF J xs ds ps rs a := ⟨_, rfl⟩
  rw [← hR]
  have HR := Lib.hid hR
  clear hR
  have be0 : Below w.heap.size w ((w.alloc (.cells #[.int .i64 J, .slice A xs.length cp] 31)).alloc (.cells #[.int .i64 a] 2)) := by go_grown
  have m1_0 : (((w.alloc (.cells #[.int .i64 J, .slice A xs.length cp] 31)).alloc (.cells #[.int .i64 a] 2))).cell? ⟨w.heap.size, 1, none⟩ = some (.slice A xs.length cp) := by go_simp
  have ma_0 : (((w.alloc (.cells #[.int .i64 J, .slice A xs.length cp] 31)).alloc (.cells #[.int .i64 a] 2))).cell? ⟨w.heap.size + 1, 0, none⟩ = some (.int .i64 a) := by go_simp
  by_cases hc : codeF J xs ds ps rs = 0
  rotate_left
  · have HG := Lib.hid (lpF_no (a := a) hc)
    have HB := Lib.hid (fun (W : World) (hb : Below w.heap.size w W) => boostersOf_no J A cp xs A1 c1 ds A2 c2 ps A3 c3 rs W hx hF ((hI.below hb).more hb.size) n1 ((hI1.below hb).more hb.size) hT1 n2 ((hI2.below hb).more hb.size) hT2 n3 hc)
    have hc' : (codeF J xs ds ps rs != 0) = true := by simpa using hc
    clear hI hI1 hI2 hI3 hT1 hT2 hF hc
    generalize codeF J xs ds ps rs = q at *
    go_enter Try.func28, Try.ntmps28
    go_wp2_with fail
    generalize ((w.alloc (.cells #[.int .i64 J, .slice A xs.length cp] 31)).alloc (.cells #[.int .i64 a] 2)) = w0 at *
    refine (HB.out _ be0).mono ?_
    rintro e w1 ⟨rfl, hb1⟩
    have be1 := be0.trans (hb1.mono be0.size)
    go_wp2_with fail
    go_ret2
    exact ⟨ret_ii (by rw [HR.out, HG.out]), be1.alloc be1.size _⟩
  obtain ⟨hm, hg⟩ := codeF_zero hc
  obtain ⟨N, rfl⟩ := mineB_nat hm
  obtain ⟨g1, g2, g3, g4, g5, g6, g7⟩ := boo_ends hg
  have g3' : ∀ k, k < xs.length → -1020000 ≤ (gainL ps ds).getD k 0 ∧ (gainL ps ds).getD k 0 ≤ 1020000 := by
    obtain ⟨_, e2, _, e4, e5⟩ := gapB_in hg
    exact gainL_gd e2 e4 e5
  have HB := Lib.hid (fun (W : World) (hb : Below w.heap.size w W) => boostersOf_yes (N : Int) A cp xs A1 c1 ds A2 c2 ps A3 c3 rs W hx hF ((hI.below hb).more hb.size) n1 ((hI1.below hb).more hb.size) hT1 n2 ((hI2.below hb).more hb.size) hT2 n3 hm hg)
  have HV := Lib.hid (fun (W : World) => indexValidA_any A cp xs.length a W (by omega))
  cases hv : inB a 0 ((xs.length : Int) - 1)
  · have HG := Lib.hid (lpF_two hc hv)
    rw [hv] at HV
    clear hI hI1 hI2 hI3 hT1 hT2 hF hc hm hg g1 g2 g3 g3' g4 g5 g6 g7 hv
    go_enter Try.func28, Try.ntmps28
    go_wp2_with fail
    generalize (w.alloc (.cells #[.int .i64 (N : Int), .slice A xs.length cp] 31)).alloc (.cells #[.int .i64 a] 2) = w0 at *
    refine (HB.out _ be0).mono ?_
    rintro e w1 ⟨v, rfl, ho, hb1⟩
    have be1 := be0.trans (hb1.mono be0.size)
    have m1_1 := cell_later hb1 m1_0
    have ma_1 := cell_later hb1 ma_0
    obtain ⟨AV, cv, rfl, -, -⟩ := ho.slice
    have s0 : w.heap.size < w1.heap.size := World.block_lt_of_cell? _ _ m1_1
    have s1 : w.heap.size + 1 < w1.heap.size := World.block_lt_of_cell? _ _ ma_1
    clear ho
    go_wp2_with (go_at_call 62; refine (HV.out _).mono ?_; rintro e w' ⟨rfl, rfl⟩)
    go_ret2
    exact ⟨ret_ii (by rw [HR.out, HG.out]), be1.alloc be1.size _⟩
  rw [hv] at HV
  obtain ⟨v1, v2⟩ := inB_iff.1 hv
  obtain ⟨k, rfl⟩ := Int.eq_ofNat_of_zero_le v1
  have hkx : k < xs.length := by omega
  have HI3 := Lib.hid hI3
  have HL3 := Lib.hid g2
  have HL := Lib.hid g1
  cases hr : rs.getD k false
  · have HG := Lib.hid (lpF_six (a := (k : Int)) hc hv (by rw [Int.toNat_natCast]; exact hr))
    have HRR := Lib.hid hr
    clear hI hI1 hI2 hI3 hT1 hT2 hF hc hm hg g1 g2 g3 g3' g4 g5 g6 g7 hv hr
    go_enter Try.func28, Try.ntmps28
    go_wp2_with fail
    generalize (w.alloc (.cells #[.int .i64 (N : Int), .slice A xs.length cp] 31)).alloc (.cells #[.int .i64 (k : Int)] 2) = w0 at *
    refine (HB.out _ be0).mono ?_
    rintro e w1 ⟨v, rfl, ho, hb1⟩
    have be1 := be0.trans (hb1.mono be0.size)
    have m1_1 := cell_later hb1 m1_0
    have ma_1 := cell_later hb1 ma_0
    obtain ⟨AV, cv, rfl, -, -⟩ := ho.slice
    have s0 : w.heap.size < w1.heap.size := World.block_lt_of_cell? _ _ m1_1
    have s1 : w.heap.size + 1 < w1.heap.size := World.block_lt_of_cell? _ _ ma_1
    obtain ⟨adr, rfl, har, hcr⟩ := (HI3.out.below be1).atD (k := k) (by rw [HL3.out]; exact hkx)
    rw [HRR.out] at hcr
    have hcr : ∀ o, (w1.alloc o).cell? (adr.add k) = some (.bool false) := fun o => Lib.cell?_alloc_some o hcr
    have hk0 : (0 : Int) ≤ (k : Int) := by omega
    have hk1 : (k : Int) < rs.length := by rw [HL3.out]; omega
    clear ho
    go_wp2_with (go_at_call 62; refine (HV.out _).mono ?_; rintro e w' ⟨rfl, rfl⟩)
    go_ret2
    exact ⟨ret_ii (by rw [HR.out, HG.out]), be1.alloc be1.size _⟩
  obtain ⟨k1, k2, k3⟩ := lpK_spec (gs := gainL ps ds) hm (by rw [g1]; exact hkx) hr
  have HG := Lib.hid (lpF_yes (a := (k : Int)) hc hv (by rw [Int.toNat_natCast]; exact hr))
  rw [Int.toNat_natCast] at HG
  have HRR := Lib.hid hr
  have HK := Lib.hid k3
  have H1 := Lib.hid (fun (AG : Option Addr) (cg bb bi : Nat) (n : Int) (W : World) (hb : Below w.heap.size w W) (hG : Ints W.heap.size W AG (gainL ps ds)) (hn1 : 0 ≤ n) (hn2 : n ≤ 20000) => lp1_any N A cp xs AG cg (gainL ps ds) A3 c3 rs bb bi k n W ((hI.below hb).more hb.size) hm hG g1 g3' ((hI3.below hb).more hb.size) g2 hkx hn1 hn2)
  clear hI hI1 hI2 hI3 hT1 hT2 hF hc hm hg g1 g2 g3 g3' g4 g5 g6 g7 hv hr k3
  generalize lpK (N : Int) xs (gainL ps ds) rs k = K at *
  go_enter Try.func28, Try.ntmps28
  go_wp2_with fail
  generalize (w.alloc (.cells #[.int .i64 (N : Int), .slice A xs.length cp] 31)).alloc (.cells #[.int .i64 (k : Int)] 2) = w0 at *
  refine (HB.out _ be0).mono ?_
  rintro e w1 ⟨v, rfl, ho, hb1⟩
  have be1 := be0.trans (hb1.mono be0.size)
  have m1_1 := cell_later hb1 m1_0
  have ma_1 := cell_later hb1 ma_0
  obtain ⟨AV, cv, rfl, -, -⟩ := ho.slice
  have s0 : w.heap.size < w1.heap.size := World.block_lt_of_cell? _ _ m1_1
  have s1 : w.heap.size + 1 < w1.heap.size := World.block_lt_of_cell? _ _ ma_1
  obtain ⟨adr, rfl, har, hcr⟩ := (HI3.out.below be1).atD (k := k) (by rw [HL3.out]; exact hkx)
  rw [HRR.out] at hcr
  have hcr : ∀ o, (w1.alloc o).cell? (adr.add k) = some (.bool true) := fun o => Lib.cell?_alloc_some o hcr
  have hk0 : (0 : Int) ≤ (k : Int) := by omega
  have hk1 : (k : Int) < rs.length := by rw [HL3.out]; omega
  have HO := Lib.hid ho
  clear ho
  go_wp2_with (go_at_call 62; refine (HV.out _).mono ?_; rintro e w' ⟨rfl, rfl⟩)
  have B2 : Below w1.heap.size w1 (w1.alloc (.cells #[.int .i64 (N : Int), .slice A xs.length cp, .slice AV (gainL ps ds).length cv, .slice (some adr) rs.length c3] 85)) := (Below.refl _ _).alloc (Nat.le_refl _) _
  have be2 := be1.trans (B2.mono be1.size)
  have q0 : (w1.alloc (.cells #[.int .i64 (N : Int), .slice A xs.length cp, .slice AV (gainL ps ds).length cv, .slice (some adr) rs.length c3] 85)).cell? ⟨w1.heap.size, 0, none⟩ = some (.int .i64 (N : Int)) := by go_simp
  have q1 : (w1.alloc (.cells #[.int .i64 (N : Int), .slice A xs.length cp, .slice AV (gainL ps ds).length cv, .slice (some adr) rs.length c3] 85)).cell? ⟨w1.heap.size, 1, none⟩ = some (.slice A xs.length cp) := by go_simp
  have q2 : (w1.alloc (.cells #[.int .i64 (N : Int), .slice A xs.length cp, .slice AV (gainL ps ds).length cv, .slice (some adr) rs.length c3] 85)).cell? ⟨w1.heap.size, 2, none⟩ = some (.slice AV (gainL ps ds).length cv) := by go_simp
  have q3 : (w1.alloc (.cells #[.int .i64 (N : Int), .slice A xs.length cp, .slice AV (gainL ps ds).length cv, .slice (some adr) rs.length c3] 85)).cell? ⟨w1.heap.size, 3, none⟩ = some (.slice (some adr) rs.length c3) := by go_simp
  have qa := cell_later B2 ma_1
  have HO2 := Lib.hid (HO.out.later B2)
  generalize w1.alloc (.cells #[.int .i64 (N : Int), .slice A xs.length cp, .slice AV (gainL ps ds).length cv, .slice (some adr) rs.length c3] 85) = w2 at *
  refine (firstIn_any 65 _ (enters_of Try.func65 (by kernel_rfl) rfl) 0 20000 K (by omega) (by omega) k1 (by omega) _ ?_).mono ?_
  · intro W x hb hx1 hx2
    have e : decide (K ≤ x) = canP (N : Int) xs (gainL ps ds) rs k x := by
      have h := HK.out x hx1 hx2
      cases hcan : canP (N : Int) xs (gainL ps ds) rs k x
      · rw [hcan] at h; exact decide_eq_false (fun h' => by have := h.1 h'; cases this)
      · rw [hcan] at h; exact decide_eq_true (h.2 rfl)
    show Calls _ _ #[.int .i64 x, .pointer (some ⟨w1.heap.size, 0, none⟩), .pointer (some ⟨w.heap.size + 1, 0, none⟩)] _ (fun e' w' => e' = .returned (.bool (decide (K ≤ x))) ∧ _)
    rw [e]
    exact H1.out AV cv _ _ x W (be2.trans (hb.mono be2.size)) (HO2.out.later hb).ints hx1 hx2 (cell_later hb q0) (cell_later hb q1) (cell_later hb q2) (cell_later hb q3) (cell_later hb qa)
  · rintro e w' ⟨rfl, hb⟩
    go_wp2_with (go_at_call 63; refine (orNotFound_any _ _ _).mono ?_; rintro e w' ⟨rfl, rfl⟩)
    go_ret2
    exact ⟨ret_ii (by rw [HR.out, HG.out]), be2.trans (hb.mono be2.size)⟩
set_option maxRecDepth 100000 in
theorem l12With_any (ad : Addr) (c : Nat) (ps : List Int) (a : Nat) (n : Int) (B : Nat) (w : World) (hn : ps.length ≤ 1048576) (hI : Ints B w (some ad) ps) (ha : a < ps.length) (h1 : -20000 ≤ ps.getD a 0) (h2 : ps.getD a 0 ≤ 20000) (h3 : 0 ≤ n) (h4 : n ≤ 20000) :
    Calls Try.prog 61 #[.slice (some ad) ps.length c, .int .i64 (a : Int), .int .i64 n] w fun e w' => ∃ v, e = .returned v ∧ Own w.heap.size w' v (pushG ps a n) ∧ Below w.heap.size w w' := by
  have HC := Lib.hid (l00Own_any ad c ps B w hn hI)
  have HS : Hid (ps.set a (ps.getD a 0 + n) = pushG ps a n) := Lib.hid rfl
  have hal : (a : Int) < ps.length := by omega
  have ha0 : (0 : Int) ≤ (a : Int) := by omega
  clear hI
  go_enter Try.func61, Try.ntmps61
  go_wp2_with fail
  refine HC.out.mono ?_
  rintro e w1 ⟨v, rfl, ho, hb1⟩
  obtain ⟨AV, cv, rfl, -, -⟩ := ho.slice
  obtain ⟨g, rfl, hg1, hrow⟩ := ho.row (n := ps.length) (by omega) rfl
  have hco : w1.cell? ⟨g, a, none⟩ = some (.int .i64 (ps.getD a 0)) := by
    rw [World.ownsRow.cellAt hrow a (by omega), vals_get ha, getD_pt ha]
  have hfz : w1.frozen? ⟨g, a, none⟩ = false := World.ownsRow.frozenAt hrow a
  have HO := Lib.hid hrow
  clear hrow ho
  generalize ps.getD a 0 = x at *
  go_wp2
  go_ret
  obtain ⟨h5, _⟩ := World.ownsRow.stored HO.out a (.int .i64 (x + n))
  rw [vals_set, HS.out] at h5
  refine ⟨_, rfl, ?_, hb1.setCell (by simpa using hg1) _⟩
  unfold Own
  rw [pushG_length]
  exact h5
set_option maxRecDepth 100000 in
set_option maxHeartbeats 3200000 in
theorem LeastPush_s (J : Int) (A : Option Addr) (cp : Nat) (xs : List Aw) (A1 : Option Addr) (c1 : Nat) (ds : List Int) (A2 : Option Addr) (c2 : Nat) (ps : List Int) (A3 : Option Addr) (c3 : Nat) (rs : List Bool) (a : Int) (w : World) (hx : (xs.length : Int) ≤ 1048576) (hF : FitsA xs) (hI : Recs encA 7 w.heap.size w A xs) (n1 : (ds.length : Int) ≤ 1048576) (hI1 : Ints w.heap.size w A1 ds) (_ : Fits ds) (n2 : (ps.length : Int) ≤ 1048576) (hI2 : Ints w.heap.size w A2 ps) (_ : Fits ps) (n3 : (rs.length : Int) ≤ 1048576) (hI3 : Bools w.heap.size w A3 rs) (_ : -9223372036854775808 ≤ a ∧ a ≤ 9223372036854775807) :
    Calls Try.prog 27 #[.agg #[.int .i64 J, .slice A xs.length cp], .slice A1 ds.length c1, .slice A2 ps.length c2, .slice A3 rs.length c3, .int .i64 a] w fun e w' => e = .returned (.tuple #[.int .i64 (lpF J xs ds ps rs a).1, .int .i64 (lpF J xs ds ps rs a).2]) ∧ Below w.heap.size w w' := by
  obtain ⟨R, hR⟩ : ∃ R, R = lpF J xs ds ps rs a := ⟨_, rfl⟩
  rw [← hR]
  have HR := Lib.hid hR
  clear hR
  have be0 : Below w.heap.size w (w.alloc (.cells #[.int .i64 J, .slice A xs.length cp] 31)) := by go_grown
  have m0 : (w.alloc (.cells #[.int .i64 J, .slice A xs.length cp] 31)).cell? ⟨w.heap.size, 0, none⟩ = some (.int .i64 J) := by go_simp
  have m1 : (w.alloc (.cells #[.int .i64 J, .slice A xs.length cp] 31)).cell? ⟨w.heap.size, 1, none⟩ = some (.slice A xs.length cp) := by go_simp
  have HQ := Lib.hid (l12Ask_any w.heap.size 0 J A cp xs A1 c1 ds A2 c2 ps A3 c3 rs w.heap.size _ hx hF (hI.below be0) n1 (hI1.below be0) n2 (hI2.below be0) n3 m0 m1)
  by_cases hc : codeF J xs ds ps rs = 0
  rotate_left
  · have HG := Lib.hid (lpF_no (a := a) hc)
    have hc' : (codeF J xs ds ps rs != 0) = true := by simpa using hc
    have hc2 : (codeF J xs ds ps rs == 0) = false := by simpa using hc
    clear hI hI1 hI2 hI3 hF hc m0 m1
    generalize codeF J xs ds ps rs = q at *
    go_enter Try.func27, Try.ntmps27
    go_wp2_with fail
    refine HQ.out.mono ?_
    rintro e _ ⟨rfl, n, rfl⟩
    have be1 := below_drewN be0 n
    clear be0
    go_wp2_with fail
    go_ret2
    exact ⟨ret_ii (by rw [HR.out, HG.out]), be1⟩
  obtain ⟨hm, hg⟩ := codeF_zero hc
  obtain ⟨N, rfl⟩ := mineB_nat hm
  obtain ⟨g1, g2, g3, g4, g5, g6, g7⟩ := boo_ends hg
  have hm1 : ∀ n, ((w.alloc (.cells #[.int .i64 (N : Int), .slice A xs.length cp] 31)).drewN n).cell? ⟨w.heap.size, 1, none⟩ = some (.slice A xs.length cp) := fun n => m1
  have HM1 := Lib.hid hm1
  rw [hc] at HQ
  have hxi : (xs.length : Int) - 1 ≤ 1048576 := by omega
  cases hv : inB a 0 ((xs.length : Int) - 1)
  · have HG := Lib.hid (lpF_two hc hv)
    have HV := Lib.hid (fun (W : World) => eqb (l00In_any a 0 ((xs.length : Int) - 1) W) hv)
    clear hI hI1 hI2 hI3 hF hc hm hg g1 g2 g3 g4 g5 g6 g7 hv m0 m1 hm1
    go_enter Try.func27, Try.ntmps27
    go_wp2_with fail
    refine HQ.out.mono ?_
    rintro e _ ⟨rfl, n, rfl⟩
    have be1 := below_drewN be0 n
    have m1 := HM1.out n
    clear be0
    generalize (w.alloc (.cells #[.int .i64 (N : Int), .slice A xs.length cp] 31)).drewN n = w1 at *
    go_wp2_with (go_at_call 60; refine (HV.out _).mono ?_; rintro e w' ⟨rfl, rfl⟩)
    go_ret2
    exact ⟨ret_ii (by rw [HR.out, HG.out]), be1⟩
  have HV := Lib.hid (fun (W : World) => eqb (l00In_any a 0 ((xs.length : Int) - 1) W) hv)
  obtain ⟨v1, v2⟩ := inB_iff.1 hv
  obtain ⟨k, rfl⟩ := Int.eq_ofNat_of_zero_le v1
  have hkx : k < xs.length := by omega
  have hk0 : (0 : Int) ≤ (k : Int) := by omega
  have hk1 : (k : Int) < rs.length := by omega
  have HL3 := Lib.hid g2
  obtain ⟨adr, rfl, har, hcr⟩ := (hI3.below be0).atD (k := k) (by omega)
  cases hr : rs.getD k false
  · have HG := Lib.hid (lpF_six (a := (k : Int)) hc hv (by rw [Int.toNat_natCast]; exact hr))
    rw [hr] at hcr
    have hcr2 : ∀ n, ((w.alloc (.cells #[.int .i64 (N : Int), .slice A xs.length cp] 31)).drewN n).cell? (adr.add k) = some (.bool false) := fun n => hcr
    have HCR := Lib.hid hcr2
    clear hI hI1 hI2 hI3 hF hc hm hg g1 g2 g3 g4 g5 g6 g7 hv m0 m1 hm1 hcr hcr2 hr
    go_enter Try.func27, Try.ntmps27
    go_wp2_with fail
    refine HQ.out.mono ?_
    rintro e _ ⟨rfl, n, rfl⟩
    have be1 := below_drewN be0 n
    have m1 := HM1.out n
    have cr := HCR.out n
    clear be0
    generalize (w.alloc (.cells #[.int .i64 (N : Int), .slice A xs.length cp] 31)).drewN n = w1 at *
    go_wp2_with (go_at_call 60; refine (HV.out _).mono ?_; rintro e w' ⟨rfl, rfl⟩)
    go_ret2
    exact ⟨ret_ii (by rw [HR.out, HG.out]), be1⟩
  obtain ⟨k1, k2, k3⟩ := lpK_spec (gs := gainL ps ds) hm (by rw [g1]; exact hkx) hr
  have HG := Lib.hid (lpF_yes (a := (k : Int)) hc hv (by rw [Int.toNat_natCast]; exact hr))
  rw [Int.toNat_natCast] at HG
  have HK := Lib.hid k3
  rw [hr] at hcr
  have hcr2 : ∀ n, ((w.alloc (.cells #[.int .i64 (N : Int), .slice A xs.length cp] 31)).drewN n).cell? (adr.add k) = some (.bool true) := fun n => hcr
  have HCR := Lib.hid hcr2
  obtain ⟨ad2, rfl, ha2, _⟩ := hI2.atD (k := k) (by omega)
  have HW := Lib.hid (fun (n : Int) (W : World) (hb : Below w.heap.size w W) (h1 : 0 ≤ n) (h2 : n ≤ 20000) => l12With_any ad2 c2 ps k n w.heap.size W (by omega) (hI2.below hb) (by omega) (by have := (gapB_in hg).2.2.2.2 k hkx; omega) (by have := (gapB_in hg).2.2.2.2 k hkx; omega) h1 h2)
  have HP := Lib.hid (fun (n : Int) (AV : Option Addr) (cv : Nat) (W : World) (hb : Below w.heap.size w W) (hV : Ints W.heap.size W AV (pushG ps k n)) (h1 : 0 ≤ n) (h2 : n ≤ 20000) (q0 : W.cell? ⟨w.heap.size, 0, none⟩ = some (.int .i64 (N : Int))) (q1 : W.cell? ⟨w.heap.size, 0 + 1, none⟩ = some (.slice A xs.length cp)) =>
    l12Fit_any w.heap.size 0 N A cp xs A1 c1 ds AV cv (pushG ps k n) (some adr) c3 rs W ((hI.below hb).more hb.size) hm ((hI1.below hb).more hb.size) g4 hV ((pushG_length _ _ _).trans g5) (pushG (gainL ps ds) k n)
      (fun j hj => by rw [pushG_at n (by omega), pushG_at n (by omega)]; have h1 := g6 j hj; have h2 := g6 k hkx; split <;> (try (rename_i e; subst e)) <;> omega)
      (fun j hj => by rw [pushG_at n (by omega)]; have h1 := g7 j hj; have h2 := (gapB_in hg).2.2.2.2 k hkx; refine ⟨h1.1, h1.2.1, ?_, ?_⟩ <;> split <;> omega)
      ((hI3.below hb).more hb.size) g2 q0 q1)
  have HL2 := Lib.hid (pushG_length ps k)
  have M0 := Lib.hid m0
  clear hI hI1 hI2 hI3 hF hc hm hg g1 g2 g3 g4 g5 g6 g7 hv m0 m1 hm1 hcr hcr2 k3
  go_enter Try.func27, Try.ntmps27
  go_wp2_with fail
  refine HQ.out.mono ?_
  rintro e _ ⟨rfl, n, rfl⟩
  have be1 := below_drewN be0 n
  have m1 := HM1.out n
  have cr := HCR.out n
  have m0 : ((w.alloc (.cells #[.int .i64 (N : Int), .slice A xs.length cp] 31)).drewN n).cell? ⟨w.heap.size, 0, none⟩ = some (.int .i64 (N : Int)) := M0.out
  clear be0 M0 HM1 HCR HQ
  generalize (w.alloc (.cells #[.int .i64 (N : Int), .slice A xs.length cp] 31)).drewN n = w1 at *
  go_wp2_with (go_at_call 60; refine (HV.out _).mono ?_; rintro e w' ⟨rfl, rfl⟩)
  have HC : Hid (∀ x, canP (N : Int) xs (gainL ps ds) rs k x = (fitF xs (pushG (gainL ps ds) k x) rs (N : Int)).isSome) := Lib.hid (fun x => rfl)
  have M01 := Lib.hid (And.intro m0 m1)
  generalize lpK (N : Int) xs (gainL ps ds) rs k = K at *
  clear m0 m1 cr
  go_loopw [13, 14] (fun lo hi wr => ∃ y z : Int, lo = .int .i64 y ∧ hi = .int .i64 z ∧ -1 ≤ y ∧ y < K ∧ K ≤ z ∧ z ≤ 20001 ∧ Below w1.heap.size w1 wr) (fun lo hi _ => (intOf hi - intOf lo).toNat)
  case atStart => exact ⟨-1, 20001, rfl, rfl, by omega, by omega, by omega, by omega, Below.refl _ _⟩
  case round =>
    obtain ⟨y, z, rfl, rfl, a1, a2, b1, b2, hb⟩ := hrel
    by_cases hlt : 1 < z - y
    · have s0 : 0 ≤ y + z := by omega
      obtain ⟨x, hx⟩ : ∃ x, (y + z) / 2 = x := ⟨_, rfl⟩
      have x1 : y < x := by omega
      have x2 : x < z := by omega
      have hbw := be1.trans (hb.mono be1.size)
      have hk3 := HK.out x (by omega) (by omega)
      rw [HC.out x] at hk3
      have HK3 := Lib.hid hk3
      have m0 := cell_later hb M01.out.1
      have m1 := cell_later hb M01.out.2
      clear hk3
      go_wp2_with fail
      refine (HW.out x _ hbw (by omega) (by omega)).mono ?_
      rintro e w2 ⟨v2, rfl, ho2, hb2⟩
      obtain ⟨AV, cv, rfl, -, -⟩ := ho2.slice
      have hbw2 := hbw.trans (hb2.mono hbw.size)
      have m0' := cell_later hb2 m0
      have m1' := cell_later hb2 m1
      have HO2 := Lib.hid ho2.ints
      clear ho2 m0 m1
      go_wp2_with fail
      refine (HP.out x AV cv _ hbw2 HO2.out (by omega) (by omega) m0' m1').mono ?_
      rintro e w3 ⟨v3, rfl, _, hb3⟩
      have hbf := hb.trans ((hb2.trans (hb3.mono hb2.size)).mono hb.size)
      cases hfit : (fitF xs (pushG (gainL ps ds) k x) rs (N : Int)).isSome
      · have hm : ¬ K ≤ x := fun h => by have := HK3.out.1 h; rw [hfit] at this; cases this
        go_wp2_with fail
        go_roundw
        case rel => exact ⟨x, z, by go_num, rfl, by omega, by omega, by omega, by omega, hbf⟩
        case measure => simp [intOf]; omega
      · have hm : K ≤ x := HK3.out.2 hfit
        go_wp2_with fail
        go_roundw
        case rel => exact ⟨y, x, rfl, by go_num, by omega, by omega, by omega, by omega, hbf⟩
        case measure => simp [intOf]; omega
    · obtain rfl : K = z := by omega
      by_cases hh : K ≤ 20000
      · have HD := Lib.hid (decide_eq_true hh)
        go_wp2
        go_ret2
        exact ⟨ret_ii (by rw [HR.out, HG.out, HD.out]; rfl), be1.trans (hb.mono be1.size)⟩
      · have HD := Lib.hid (decide_eq_false hh)
        go_wp2
        go_ret2
        exact ⟨ret_ii (by rw [HR.out, HG.out, HD.out]; rfl), be1.trans (hb.mono be1.size)⟩
end Go.Proofs.Ytlgagnbnjfneaaa
