/- Temperatures at junctions: what comes to a junction, by the program. Conditions: the facts on memory and on lengths that each theorem names. -/
import Derived.Test.YtlgagnbnjfneaaaTeA
import Derived.Test.YtlgagnbnjfneaaaTwo
import Derived.Test.YtlgagnbnjfneaaaBools
import Derived.Test.YtlgagnbnjfneaaaWkI
import Derived.Deep.RegionHeldLaw
namespace Go.Proofs.Ytlgagnbnjfneaaa
open Go.RowKit
open Pl
theorem heat_bd {p q : Int} (h1 : -10000000 ≤ p) (h2 : p ≤ 10000000) : -20000000000 ≤ heatF p q 1200 ∧ heatF p q 1200 ≤ 20000000000 := by
  unfold heatF
  have m5 := mx_ge_left 1 (divR (q * 1200) 100)
  generalize mx 1 (divR (q * 1200) 100) = m at *
  exact ⟨le_divR (by omega) (by omega) (by omega), divR_le (by omega) (by omega) (by omega)⟩
/-- The two ways of an airway of a mine, as the program has them. -/
theorem Hx.Ok.ways {H : Hx} {N k : Nat} (h : H.Ok N) (hk : k < H.xs.length) (h0 : H.fs.getD k 0 ≠ 0) :
    (if H.fs.getD k 0 < 0 then (H.xs.getD k aNone).t else (H.xs.getD k aNone).f) = (H.s k : Int) ∧ (if H.fs.getD k 0 < 0 then (H.xs.getD k aNone).f else (H.xs.getD k aNone).t) = (H.e k : Int) := by
  obtain ⟨a, b⟩ := (mineB_ends h.hm).2 k hk
  unfold Hx.s Hx.e
  rcases Int.lt_or_gt_of_ne h0 with h1 | h1
  · have h2 : ¬ 0 < H.fs.getD k 0 := by omega
    rw [if_pos h1, if_pos h1, if_neg h2, if_neg h2]; exact ⟨b, a⟩
  · have h2 : ¬ H.fs.getD k 0 < 0 := by omega
    have h1 : 0 < H.fs.getD k 0 := h1
    rw [if_neg h2, if_neg h2, if_pos h1, if_pos h1]; exact ⟨a, b⟩
set_option maxRecDepth 100000 in
set_option maxHeartbeats 6400000 in
theorem comingIn_any (H : Hx) (N : Nat) (A : Option Addr) (cp : Nat) (A1 : Option Addr) (c1 : Nat) (A2 : Option Addr) (c2 : Nat) (A3 : Option Addr) (c3 : Nat) (A4 : Option Addr) (c4 : Nat) (d : List Int) (j : Nat) (w : World) (hO : H.Ok N) (hI : Recs encA 7 w.heap.size w A H.xs)
    (hI1 : Ints w.heap.size w A1 H.fs) (hI2 : Ints w.heap.size w A2 H.rs) (hI3 : Ints w.heap.size w A3 H.ps) (hI4 : Ints w.heap.size w A4 d) (hd : Hx.Tl N d) (_ : j < N) :
    Calls Try.prog 121 #[.agg #[.int .i64 (N : Int), .slice A H.xs.length cp], .slice A1 H.fs.length c1, .slice A2 H.rs.length c2, .slice A3 H.ps.length c3, .slice A4 d.length c4, .int .i64 (j : Int), .int .i64 H.q] w fun e w' => e = .returned (.tuple #[.int .i64 ((H.into d j).getD 0), .bool (H.into d j).isSome]) ∧ Below w.heap.size w w' := by
  obtain ⟨R, hR⟩ : ∃ R, R = H.into d j := ⟨_, rfl⟩
  rw [← hR]
  have HR := Lib.hid hR
  have be0 : Below w.heap.size w (w.alloc (.cells #[.int .i64 (N : Int), .slice A H.xs.length cp] 31)) := by go_grown
  have m1 : (w.alloc (.cells #[.int .i64 (N : Int), .slice A H.xs.length cp] 31)).cell? ⟨w.heap.size, 1, none⟩ = some (.slice A H.xs.length cp) := by go_simp
  have hxn := hO.len
  have lf := hO.lf
  have lr := hO.lr
  have lp := hO.lp
  have ld := hd.1
  have HL := Lib.hid (And.intro lf (And.intro lr (And.intro lp ld)))
  obtain ⟨q1, q2⟩ := hO.hq
  obtain ⟨i0, hi, hz0, hz1, hz2⟩ := info_parts infoI
  have HF := Lib.hid (And.intro hi (And.intro hz0 (And.intro hz1 hz2)))
  have HO := Lib.hid hO
  have HD := Lib.hid hd
  have J0 := Lib.hid hI
  have J1 := Lib.hid hI1
  have J2 := Lib.hid hI2
  have J3 := Lib.hid hI3
  have J4 := Lib.hid hI4
  clear hR hO hd hI hI1 hI2 hI3 hI4 lf lr lp ld hi hz0 hz1 hz2
  go_enter Try.func121, Try.ntmps121
  go_wp2
  go_loopw [16, 17, 27] (fun u v i wr => ∃ k : Nat, k ≤ H.xs.length ∧ i = .int .i64 k ∧ H.rdy d j k = true ∧ Below w.heap.size w wr ∧ Two w.heap.size wr u v (H.lA d j k) (H.lW d j k)) (fun _ _ i _ => H.xs.length - (intOf i).toNat)
  case atStart => exact ⟨0, Nat.zero_le _, rfl, rfl, be0, Two.nil _ _⟩
  case round =>
    obtain ⟨k, hk, rfl, hrd, hb, hT⟩ := hrel
    obtain ⟨AU, cu, rfl, -, -⟩ := hT.l.slice
    obtain ⟨AW, cw, rfl, -, -⟩ := hT.r.slice
    have HT := Lib.hid hT
    have HRD := Lib.hid hrd
    obtain ⟨hln, hll⟩ := H.l_len d j k
    have HLN := Lib.hid hln
    clear hT hrd hln
    by_cases hlt : k < H.xs.length
    · obtain ⟨e1, e2, e3, e4⟩ := HL.out
      obtain ⟨ad1, rfl, hab1, hc1⟩ := (J1.out.below hb).atD (k := k) (by omega)
      have hk1 : (k : Int) < H.fs.length := by omega
      have hk2 : (k : Int) < H.rs.length := by omega
      have hk3 : (k : Int) < H.ps.length := by omega
      have hk0 : (0 : Int) ≤ (k : Int) := by omega
      clear e1 e2 e3 e4
      obtain ⟨v, hv⟩ : ∃ v, H.fs.getD k 0 = v := ⟨_, rfl⟩
      rw [hv] at hc1
      have HV := Lib.hid hv
      obtain ⟨⟨s, f, t, l, c, r, kk⟩, hx⟩ : ∃ x, H.xs.getD k aNone = x := ⟨_, rfl⟩
      obtain ⟨b, o, hA, hab, g0, g1, g2, g3, g4, g5, g6⟩ := (J0.out.below hb).cells7 hlt hx
      cases hA
      have HX := Lib.hid hx
      have HW := Lib.hid (fun W => ways_any s f t l c r kk v W)
      have be1 : Below wr.heap.size wr (wr.alloc (.cells #[.string s, .int .i64 f, .int .i64 t, .int .i64 l, .int .i64 c, .int .i64 r, .int .i64 kk] 92)) := (Below.refl _ _).alloc (Nat.le_refl _) _
      have f0 : ((wr.alloc (.cells #[.string s, .int .i64 f, .int .i64 t, .int .i64 l, .int .i64 c, .int .i64 r, .int .i64 kk] 92))).cell? ⟨wr.heap.size, 0, none⟩ = some (.string s) := by go_simp
      have f1 : ((wr.alloc (.cells #[.string s, .int .i64 f, .int .i64 t, .int .i64 l, .int .i64 c, .int .i64 r, .int .i64 kk] 92))).cell? ⟨wr.heap.size, 1, none⟩ = some (.int .i64 f) := by go_simp
      have f2 : ((wr.alloc (.cells #[.string s, .int .i64 f, .int .i64 t, .int .i64 l, .int .i64 c, .int .i64 r, .int .i64 kk] 92))).cell? ⟨wr.heap.size, 2, none⟩ = some (.int .i64 t) := by go_simp
      have f3 : ((wr.alloc (.cells #[.string s, .int .i64 f, .int .i64 t, .int .i64 l, .int .i64 c, .int .i64 r, .int .i64 kk] 92))).cell? ⟨wr.heap.size, 3, none⟩ = some (.int .i64 l) := by go_simp
      have f4 : ((wr.alloc (.cells #[.string s, .int .i64 f, .int .i64 t, .int .i64 l, .int .i64 c, .int .i64 r, .int .i64 kk] 92))).cell? ⟨wr.heap.size, 4, none⟩ = some (.int .i64 c) := by go_simp
      have f5 : ((wr.alloc (.cells #[.string s, .int .i64 f, .int .i64 t, .int .i64 l, .int .i64 c, .int .i64 r, .int .i64 kk] 92))).cell? ⟨wr.heap.size, 5, none⟩ = some (.int .i64 r) := by go_simp
      have f6 : ((wr.alloc (.cells #[.string s, .int .i64 f, .int .i64 t, .int .i64 l, .int .i64 c, .int .i64 r, .int .i64 kk] 92))).cell? ⟨wr.heap.size, 6, none⟩ = some (.int .i64 kk) := by go_simp
      have d1 := cell_later be1 hc1
      have hb1 := hb.trans (be1.mono hb.size)
      have hT1 := Lib.hid (HT.out.later be1)
      have hsz := hb.size
      clear hx hv
      obtain ⟨x, hxx⟩ : ∃ x, (if v < 0 then t else f) = x := ⟨_, rfl⟩
      obtain ⟨y, hyy⟩ : ∃ y, (if v < 0 then f else t) = y := ⟨_, rfl⟩
      rw [hxx, hyy] at HW
      have HXY := Lib.hid (And.intro hxx hyy)
      clear hxx hyy
      go_wp2
      clear g0 g1 g2 g3 g4 g5 g6
      generalize (wr.alloc (.cells #[.string s, .int .i64 f, .int .i64 t, .int .i64 l, .int .i64 c, .int .i64 r, .int .i64 kk] 92)) = w4 at *
      have K0 := fun L : Later w4 => L.cell f0
      have K1 := fun L : Later w4 => L.cell f1
      have K2 := fun L : Later w4 => L.cell f2
      have K3 := fun L : Later w4 => L.cell f3
      have K4 := fun L : Later w4 => L.cell f4
      have K5 := fun L : Later w4 => L.cell f5
      have K6 := fun L : Later w4 => L.cell f6
      have KD := fun L : Later w4 => L.cell d1
      refine wp_region_later (by kernel_rfl) (by kernel_rfl) ?_
      repeat (go_big_quiet_step ((go_at_call 150; first | (with_reducible exact later_b (HW.out _)) | (with_reducible exact later_d (HW.out _)) | (with_reducible exact later_s (HW.out _)))))
      refine wpQuiet_nil ?_
      intro _ hw'
      obtain ⟨LL, hw''⟩ := hw'
      subst hw''
      clear K0 K1 K2 K3 K4 K5 K6 KD
      have c5 := cell_later LL.below d1
      have p3 := cell_later LL.below f3
      have p4 := cell_later LL.below f4
      have hT5 := Lib.hid (hT1.out.later LL.below)
      have hb5 := hb1.trans (LL.below.mono hb1.size)
      generalize LL.world = w5 at *
      have hsz5 : w.heap.size ≤ w5.heap.size := hb5.size
      by_cases h0 : v = 0
      · have htk : H.tk d j k = false := by unfold Hx.tk Hx.cm; rw [HV.out, h0]; rfl
        have hbd : H.bad d j k = false := by unfold Hx.bad Hx.cm; rw [HV.out, h0]; rfl
        have HE := Lib.hid (And.intro htk hbd)
        clear htk hbd
        subst h0
        go_wp2
        go_roundw
        case rel =>
          refine ⟨k + 1, by omega, by go_num, ?_, hb5, ?_⟩
          · rw [H.rdy_succ, HRD.out, HE.out.2]; rfl
          · rw [H.lA_no HE.out.1, H.lW_no HE.out.1]; exact hT5.out
        case measure => simp [intOf]; omega
      obtain ⟨hS, hE⟩ := HO.out.ways hlt (by rw [HV.out]; exact h0)
      obtain ⟨hsN, heN⟩ := HO.out.s hlt
      rw [HV.out, HX.out] at hS hE
      have hS : (if v < 0 then t else f) = (H.s k : Int) := hS
      have hE : (if v < 0 then f else t) = (H.e k : Int) := hE
      rw [HXY.out.1] at hS
      rw [HXY.out.2] at hE
      subst hS hE
      have h0b : (v == 0) = false := by rw [beq_eq_false_iff_ne]; exact h0
      by_cases hj : H.e k = j
      rotate_left
      · have hjb : ((H.e k : Int) == (j : Int)) = false := by rw [beq_eq_false_iff_ne]; omega
        have htk : H.tk d j k = false := by unfold Hx.tk Hx.cm; rw [decide_eq_false hj]; simp
        have hbd : H.bad d j k = false := by unfold Hx.bad Hx.cm; rw [decide_eq_false hj]; simp
        have HE := Lib.hid (And.intro htk hbd)
        have hji : ¬ (H.e k : Int) = (j : Int) := by omega
        clear htk hbd
        generalize H.e k = E at *
        generalize H.s k = S at *
        go_wp2
        go_roundw
        case rel =>
          refine ⟨k + 1, by omega, by go_num, ?_, hb5, ?_⟩
          · rw [H.rdy_succ, HRD.out, HE.out.2]; rfl
          · rw [H.lA_no HE.out.1, H.lW_no HE.out.1]; exact hT5.out
        case measure => simp [intOf]; omega
      have hcm : H.cm j k = true := by unfold Hx.cm; rw [HV.out, decide_eq_true hj, decide_eq_true h0]; rfl
      have HCM := Lib.hid hcm
      clear hcm
      obtain ⟨ad4, rfl, hab4, hc4⟩ := (J4.out.below hb5).atD (k := H.s k) (by rw [HL.out.2.2.2]; exact hsN)
      have hS0 : (0 : Int) ≤ (H.s k : Int) := by omega
      have hS1 : (H.s k : Int) < d.length := by rw [HL.out.2.2.2]; omega
      by_cases hu : d.getD (H.s k) 0 = -1000
      · have hkn : H.kn d k = false := by unfold Hx.kn; exact decide_eq_false (fun h => h hu)
        have HG : Hid (R = none) := Lib.hid (by
          rw [HR.out]
          refine H.into_no (H.rdy_down (k := k + 1) ?_ _ (by omega))
          rw [H.rdy_succ]; unfold Hx.bad; rw [HCM.out, hkn]; simp)
        rw [hu] at hc4
        clear hu hkn
        rw [hj]
        generalize H.s k = S at *
        go_wp2
        go_ret2
        exact ⟨by rw [HG.out]; rfl, hb5⟩
      have hkn : H.kn d k = true := decide_eq_true hu
      have HKN := Lib.hid hkn
      have hv0 : H.fs.getD k 0 ≠ 0 := by rw [HV.out]; exact h0
      obtain ⟨⟨t1, t2⟩, t3, t4⟩ := HO.out.wrm HD.out hlt hkn
      obtain ⟨a1, a2⟩ := HO.out.amt hlt hv0
      obtain ⟨⟨l1, l2⟩, D1, D2, D3, D4⟩ := HO.out.tm hlt hv0
      obtain ⟨r1, r2⟩ := HO.out.hr k hlt
      obtain ⟨p1, p2⟩ := HO.out.hp k hlt
      obtain ⟨v1, v2⟩ := HO.out.hf k hlt
      obtain ⟨o1, o2⟩ := heat_bd (q := H.amt k) p1 p2
      obtain ⟨ad2, rfl, hab2, hc2⟩ := (J2.out.below hb5).atD (k := k) (by rw [HL.out.2.1]; exact hlt)
      obtain ⟨ad3, rfl, hab3, hc3⟩ := (J3.out.below hb5).atD (k := k) (by rw [HL.out.2.2.1]; exact hlt)
      rw [HV.out] at v1 v2
      have ham : H.amt k = ((v.natAbs : Nat) : Int) := by unfold Hx.amt; rw [HV.out]
      have HA : Hid (∀ W, Calls Try.prog 95 #[.int .i64 v] W fun e w' => e = .returned (.int .i64 (H.amt k)) ∧ W = w') := Lib.hid (fun W => by rw [ham]; exact abs_any v W (by omega) (by omega))
      have hlc : (H.xs.getD k aNone).l * (H.xs.getD k aNone).c = l * c := by rw [HX.out]
      rw [hlc] at l1 l2 D1 D2
      have HDv := Lib.hid (fun W => divUp_any (l * c) (H.amt k) W (by omega) (by omega) (by omega) (by omega))
      have htm : H.tm k = mn 100000 (divU (l * c) (H.amt k)) := by unfold Hx.tm; rw [hlc]
      have HMw : Hid (∀ W, Calls Try.prog 151 #[.int .i64 (d.getD (H.s k) 0), .int .i64 (H.rs.getD k 0), .int .i64 H.q, .int .i64 (H.tm k)] W fun e w' => e = .returned (.int .i64 (H.wrm d k)) ∧ ∃ n, W.drewN n = w') := Lib.hid (fun W => by
        have h := warmAlong_any (d.getD (H.s k) 0) (H.rs.getD k 0) H.q (H.tm k).toNat W t1 t2 r1 r2 q1 q2 (by omega)
        rw [Int.toNat_of_nonneg D3] at h
        exact h)
      have HHt := Lib.hid (fun W => heatFrom_any (H.ps.getD k 0) (H.amt k) 1200 W p1 p2 a1 a2 (by omega) (by omega))
      have hwm : H.wm d k = clipF (H.wrm d k + heatF (H.ps.getD k 0) (H.amt k) 1200) := rfl
      have HCl : Hid (∀ W, Calls Try.prog 153 #[.int .i64 (H.wrm d k + heatF (H.ps.getD k 0) (H.amt k) 1200)] W fun e w' => e = .returned (.int .i64 (H.wm d k)) ∧ W = w') := Lib.hid (fun W => by rw [hwm]; exact asWarmth_any _ W)
      have HYA := Lib.hid (H.lA_yes HCM.out hkn)
      have HYW := Lib.hid (H.lW_yes HCM.out hkn)
      have w1 : IntKind.i64.wrap (l * c) = l * c := IntWalk.i64_in _ (by omega)
      have hub : (d.getD (H.s k) 0 == -1000) = false := by rw [beq_eq_false_iff_ne]; exact hu
      have HRS : Hid (H.rdy d j (k + 1) = true) := Lib.hid (by rw [H.rdy_succ, HRD.out]; unfold Hx.bad; rw [hkn]; simp)
      rw [hj]
      clear hkn ham hlc hwm HD hv0 HCM HKN HX HXY v1 v2
      have hlw : (H.lW d j k).length ≤ k := by have := HLN.out; omega
      generalize H.lA d j k = la at *
      generalize H.lW d j k = lw at *
      generalize hD : divU (l * c) (H.amt k) = D at *
      generalize H.tm k = τ at *
      generalize H.wrm d k = z at *
      generalize H.wm d k = wv at *
      generalize heatF (H.ps.getD k 0) (H.amt k) 1200 = ht at *
      generalize H.amt k = am at *
      generalize H.rs.getD k 0 = rock at *
      generalize H.ps.getD k 0 = pw at *
      generalize d.getD (H.s k) 0 = x0 at *
      generalize H.s k = S at *
      have w2 : IntKind.i64.wrap (z + ht) = z + ht := IntWalk.i64_in _ (by omega)
      clear hD
      go_wp2_with (go_at_call 95; refine (HA.out _).mono ?_; rintro e w' ⟨rfl, rfl⟩)
      have K3 := fun L : Later w5 => L.cell p3
      have K4 := fun L : Later w5 => L.cell p4
      have KT := fun L : Later w5 => L.cell hc4
      have KR := fun L : Later w5 => L.cell hc2
      have hτ : (100000 < D ∧ τ = 100000) ∨ (D ≤ 100000 ∧ τ = D) := by
        rcases Int.lt_or_le 100000 D with hD | hD
        · exact .inl ⟨hD, by rw [htm]; exact mn_eq_left (by omega)⟩
        · exact .inr ⟨hD, by rw [htm]; exact mn_eq_right hD⟩
      clear htm
      rcases hτ with ⟨hD, rfl⟩ | ⟨hD, rfl⟩
      all_goals
        refine wp_region_later (by kernel_rfl) (by kernel_rfl) ?_
        repeat (go_big_quiet_step ((first | (go_at_call 152; first | (with_reducible exact later_b (HDv.out _)) | (with_reducible exact later_d (HDv.out _)) | (with_reducible exact later_s (HDv.out _))) | (go_at_call 151; first | (with_reducible exact later_b (HMw.out _)) | (with_reducible exact later_d (HMw.out _)) | (with_reducible exact later_s (HMw.out _))))))
        refine wpQuiet_nil ?_
        intro _ hw'
        obtain ⟨LL, hw''⟩ := hw'
        subst hw''
        clear K3 K4 KT KR
        have c6 := cell_later LL.below hc3
        have hT6 := Lib.hid (hT5.out.later LL.below)
        have hb6 := hb5.trans (LL.below.mono hb5.size)
        have hsz6 : w.heap.size ≤ LL.world.heap.size := hb6.size
        generalize LL.world = w6 at *
        have hcb : (ad3.add k).block < w.heap.size := by rw [block_add]; exact hab3
        have HNa := Lib.hid (fun g (h : (Value.slice AU la.length cu).ownBlock = some g) => (World.ownsRow.lt hT6.out.l g h).2)
        go_wp2
        go_region_held_law (fun w' => w'.cell? (ad3.add k) = some (.int .i64 pw))
          (first
            | go_keep
            | exact (Z2.cell hcb).trans c6
            | exact (ZL.cell hcb).trans c6
            | exact (ZR.cell hcb).trans c6)
          (first
            | (go_at_call 154; refine (HHt.out _).mono ?_; rintro e w' ⟨rfl, _, rfl⟩)
            | (go_at_call 153; refine (HCl.out _).mono ?_; rintro e w' ⟨rfl, rfl⟩)
            | ((refine step_append_lies _ (by rfl) _ _ _ (by rfl) w.heap.size 2 i0 (.int .i64 0) 1 8 Try.underlying25 HF.out.1 HF.out.2.1 HF.out.2.2.1 HF.out.2.2.2 rfl (by decide) _ _ _ (by rfl) (show World.ownsRow _ w.heap.size 2 1 _ la.length (vals la) from (hT6.out.later (by repeat' (first | (with_reducible exact Below.refl _ _) | (with_reducible assumption) | (with_reducible refine below_drewN ?_ _) | (with_reducible refine Below.drew ?_) | (with_reducible refine Below.alloc ?_ ?_ _) | (simp <;> omega)))).l) _ 1 1 [.int .i64 am] (by rfl) (by rfl) (news_one (by first | go_simp | assumption)) (by simp [Value.oneCell']) (by omega) (le_max (by omega)) (by omega) (by first | omega | (simp; omega)) _ rfl ?_; intro gL capL w7 hownL hgL hatL hltL; obtain ⟨TL, ZL'⟩ := Two.left (hT6.out.later (by repeat' (first | (with_reducible exact Below.refl _ _) | (with_reducible assumption) | (with_reducible refine below_drewN ?_ _) | (with_reducible refine Below.drew ?_) | (with_reducible refine Below.alloc ?_ ?_ _) | (simp <;> omega)))) (by simp; omega) hownL hgL hatL; have ZL : Below w.heap.size w6 w7 := ((show Below w6.heap.size w6 _ from (by repeat' (first | (with_reducible exact Below.refl _ _) | (with_reducible assumption) | (with_reducible refine below_drewN ?_ _) | (with_reducible refine Below.drew ?_) | (with_reducible refine Below.alloc ?_ ?_ _) | (simp <;> omega)))).mono hsz6).trans ZL'; have hsz7 := ZL.size))
            | ((refine step_append_lies _ (by rfl) _ _ _ (by rfl) w.heap.size 2 i0 (.int .i64 0) 1 8 Try.underlying25 HF.out.1 HF.out.2.1 HF.out.2.2.1 HF.out.2.2.2 rfl (by decide) _ _ _ (by rfl) (show World.ownsRow _ w.heap.size 2 1 _ lw.length (vals lw) from (TL.later (by repeat' (first | (with_reducible exact Below.refl _ _) | (with_reducible assumption) | (with_reducible refine below_drewN ?_ _) | (with_reducible refine Below.drew ?_) | (with_reducible refine Below.alloc ?_ ?_ _) | (simp <;> omega)))).r) _ 1 1 [.int .i64 wv] (by rfl) (by rfl) (World.news_of_block (cs := #[.int .i64 wv]) (t := 2) (fr := (0, 0)) (heap_alloc_new _ _)) (by simp [Value.oneCell']) (by omega) (le_max (by omega)) (by omega) (by first | omega | (simp; omega)) _ rfl ?_; intro g2 cap2 w8 hown2 hg2 hat2 hlt2; obtain ⟨T2, Z2'⟩ := Two.right (TL.later (by repeat' (first | (with_reducible exact Below.refl _ _) | (with_reducible assumption) | (with_reducible refine below_drewN ?_ _) | (with_reducible refine Below.drew ?_) | (with_reducible refine Below.alloc ?_ ?_ _) | (simp <;> omega)))) (by simp; omega) hown2 hg2 hat2; have Z2 : Below w.heap.size w6 w8 := (ZL.trans ((show Below w7.heap.size w7 _ from (by repeat' (first | (with_reducible exact Below.refl _ _) | (with_reducible assumption) | (with_reducible refine below_drewN ?_ _) | (with_reducible refine Below.drew ?_) | (with_reducible refine Below.alloc ?_ ?_ _) | (simp <;> omega)))).mono (Nat.le_trans hsz6 hsz7))).trans Z2')))
        all_goals
          go_wp2
          go_roundw
          case rel =>
            refine ⟨k + 1, by omega, by go_num, HRS.out, hb6.trans Z2, ?_⟩
            rw [HYA.out, HYW.out]
            exact T2
          case measure => simp [intOf]; omega
    · obtain rfl : k = H.xs.length := by omega
      obtain ⟨b1, b2⟩ := HO.out.lists (d := d) (j := j) H.xs.length (Nat.le_refl _)
      by_cases h0 : (H.lA d j H.xs.length).length = 0
      · have HG := Lib.hid (HR.out.trans (H.into_none h0))
        clear HLN HRD HT b1 b2
        generalize H.lA d j H.xs.length = la at *
        generalize H.lW d j H.xs.length = lw at *
        obtain rfl := List.eq_nil_of_length_eq_zero h0
        go_wp2
        go_ret2
        exact ⟨by rw [HG.out]; rfl, hb⟩
      · have HG := Lib.hid (HR.out.trans (H.into_some HRD.out (Nat.pos_of_ne_zero h0)))
        have HM : Hid (Calls Try.prog 155 #[.slice AU (H.lA d j H.xs.length).length cu, .slice AW (H.lW d j H.xs.length).length cw] wr fun e w' => e = .returned (.int .i64 (mixTF (H.lA d j H.xs.length) (H.lW d j H.xs.length))) ∧ ∃ n, wr.drewN n = w') := Lib.hid (by
          have h := mixTemperature_any AU AW cu cw (H.lA d j H.xs.length).length (H.lA d j H.xs.length) (H.lW d j H.xs.length) wr.heap.size wr (by omega) (by omega) rfl HLN.out.symm HT.out.l.ints HT.out.r.ints b1 b2
          rw [← HLN.out]
          exact h)
        clear HLN HRD HT b1 b2
        generalize H.lA d j H.xs.length = la at *
        generalize H.lW d j H.xs.length = lw at *
        have h0i : ((la.length : Int) == 0) = false := by rw [beq_eq_false_iff_ne]; omega
        go_wp2_with fail
        refine HM.out.mono ?_
        rintro e _ ⟨rfl, n, rfl⟩
        go_wp2_with fail
        go_ret2
        exact ⟨by rw [HG.out]; rfl, below_drewN hb n⟩
end Go.Proofs.Ytlgagnbnjfneaaa
