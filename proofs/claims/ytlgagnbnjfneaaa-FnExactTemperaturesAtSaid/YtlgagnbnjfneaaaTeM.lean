/- The law of the temperatures at junctions: the program's and the reference's functions on a mine, and the law's walk. Conditions: the facts on memory and on lengths that each theorem names. -/
import Derived.Test.YtlgagnbnjfneaaaTeS
import Derived.Test.YtlgagnbnjfneaaaTeT
import Derived.Test.YtlgagnbnjfneaaaMineW
namespace Go.Proofs.Ytlgagnbnjfneaaa
open Go.RowKit
open Pl
noncomputable def teF (J : Int) (xs : List Aw) (fs rs ps su : List Int) (t q : Int) : List Int × Int := if tcode J xs fs rs ps su t q = 0 then ((⟨xs, fs, rs, ps, q⟩ : Hx).go J.toNat J.toNat (Hx.first J.toNat su t), 0) else ([], tcode J xs fs rs ps su t q)
theorem Hx.nxt_length (H : Hx) (N : Nat) (d : List Int) : (H.nxt N d).length = d.length := by unfold Hx.nxt; split <;> simp
theorem Hx.go_length (H : Hx) (N : Nat) : ∀ (r : Nat) (d : List Int), (H.go N r d).length = d.length
  | 0, _ => rfl
  | r + 1, d => by unfold Hx.go; rw [Hx.go_length H N r, H.nxt_length]
theorem teF_no {J : Int} {xs : List Aw} {fs rs ps su : List Int} {t q : Int} (h : tcode J xs fs rs ps su t q ≠ 0) : teF J xs fs rs ps su t q = ([], tcode J xs fs rs ps su t q) := by unfold teF; rw [if_neg h]
theorem teF_yes {N : Nat} {xs : List Aw} {fs rs ps su : List Int} {t q : Int} (h : tcode (N : Int) xs fs rs ps su t q = 0) : teF (N : Int) xs fs rs ps su t q = ((⟨xs, fs, rs, ps, q⟩ : Hx).go N N (Hx.first N su t), 0) := by unfold teF; rw [if_pos h, Int.toNat_natCast]
theorem teF_len (J : Int) (xs : List Aw) (fs rs ps su : List Int) (t q : Int) : (teF J xs fs rs ps su t q).1.length ≤ 1048576 := by
  by_cases h : tcode J xs fs rs ps su t q = 0
  · unfold teF
    rw [if_pos h]
    obtain ⟨a, -⟩ := mineB_bd (tcode_zero h).1
    show (Hx.go _ _ _ _).length ≤ _
    rw [Hx.go_length, Hx.first_length]
    omega
  · rw [teF_no h]; simp
theorem allIn_get {xs : List Int} {lo hi : Int} (h : allIn xs lo hi = true) {k : Nat} (hk : k < xs.length) : lo ≤ xs.getD k 0 ∧ xs.getD k 0 ≤ hi := by
  rw [allIn_up] at h
  exact inB_iff.1 ((allUp_iff _ _).1 h k hk)
theorem Hx.ok_of {N : Nat} {xs : List Aw} {fs rs ps su : List Int} {t q : Int} (h : tcode (N : Int) xs fs rs ps su t q = 0) :
    (⟨xs, fs, rs, ps, q⟩ : Hx).Ok N ∧ (∀ m, m < su.length → 0 ≤ su.getD m 0 ∧ su.getD m 0 ≤ (N : Int) - 1) ∧ (-100 ≤ t ∧ t ≤ 600) := by
  obtain ⟨h1, h2, h3⟩ := tcode_zero h
  unfold lstB at h2
  unfold oneB surB at h3
  simp only [Bool.and_eq_true, decide_eq_true_eq] at h2 h3
  obtain ⟨⟨l1, a1⟩, ⟨l2, a2⟩, ⟨l3, a3⟩⟩ := h2
  obtain ⟨⟨_, s2⟩, t1, q1⟩ := h3
  refine ⟨⟨h1, by show fs.length = xs.length; omega, by show rs.length = xs.length; omega, by show ps.length = xs.length; omega, fun k hk => ?_, fun k hk => ?_, fun k hk => ?_, inB_iff.1 q1⟩, fun m hm => allIn_get s2 hm, inB_iff.1 t1⟩
  · have hk : k < xs.length := hk
    exact allIn_get a1 (by omega)
  · have hk : k < xs.length := hk
    exact allIn_get a2 (by omega)
  · have hk : k < xs.length := hk
    exact allIn_get a3 (by omega)
set_option maxRecDepth 100000 in
set_option maxHeartbeats 1600000 in
theorem TemperaturesAt_i (J : Int) (A : Option Addr) (cp : Nat) (xs : List Aw) (A1 : Option Addr) (c1 : Nat) (fs : List Int) (A2 : Option Addr) (c2 : Nat) (rs : List Int) (A3 : Option Addr) (c3 : Nat) (ps : List Int) (A4 : Option Addr) (c4 : Nat) (su : List Int) (t q : Int) (w : World)
    (hx : (xs.length : Int) ≤ 1048576) (hF : FitsA xs) (hI : Recs encA 7 w.heap.size w A xs) (n1 : (fs.length : Int) ≤ 1048576) (hI1 : Ints w.heap.size w A1 fs) (hT1 : Fits fs) (n2 : (rs.length : Int) ≤ 1048576) (hI2 : Ints w.heap.size w A2 rs) (hT2 : Fits rs)
    (n3 : (ps.length : Int) ≤ 1048576) (hI3 : Ints w.heap.size w A3 ps) (hT3 : Fits ps) (n4 : (su.length : Int) ≤ 1048576) (hI4 : Ints w.heap.size w A4 su) (hT4 : Fits su) (_ : -9223372036854775808 ≤ t ∧ t ≤ 9223372036854775807) (_ : -9223372036854775808 ≤ q ∧ q ≤ 9223372036854775807) :
    Calls Try.prog 32 #[.agg #[.int .i64 J, .slice A xs.length cp], .slice A1 fs.length c1, .slice A2 rs.length c2, .slice A3 ps.length c3, .slice A4 su.length c4, .int .i64 t, .int .i64 q] w fun e w' => ∃ u, e = .returned (.tuple #[u, .int .i64 (teF J xs fs rs ps su t q).2]) ∧ Own w.heap.size w' u (teF J xs fs rs ps su t q).1 ∧ Below w.heap.size w w' := by
  obtain ⟨R, hR⟩ : ∃ R, R = teF J xs fs rs ps su t q := ⟨_, rfl⟩
  rw [← hR]
  have HR := Lib.hid hR
  clear hR
  have be0 : Below w.heap.size w (w.alloc (.cells #[.int .i64 J, .slice A xs.length cp] 31)) := by go_grown
  have m0_0 : ((w.alloc (.cells #[.int .i64 J, .slice A xs.length cp] 31))).cell? ⟨w.heap.size, 0, none⟩ = some (.int .i64 J) := by go_simp
  have m1_0 : ((w.alloc (.cells #[.int .i64 J, .slice A xs.length cp] 31))).cell? ⟨w.heap.size, 1, none⟩ = some (.slice A xs.length cp) := by go_simp
  have HC := Lib.hid (fun (W : World) (hb : Below w.heap.size w W) => heatCode_any J A cp xs A1 c1 fs A2 c2 rs A3 c3 ps A4 c4 su t q W hx hF ((hI.below hb).more hb.size) n1 ((hI1.below hb).more hb.size) hT1 n2 ((hI2.below hb).more hb.size) hT2 n3 ((hI3.below hb).more hb.size) hT3 n4 ((hI4.below hb).more hb.size) hT4)
  have J0 := Lib.hid hI
  have J1 := Lib.hid hI1
  have J2 := Lib.hid hI2
  have J3 := Lib.hid hI3
  have J4 := Lib.hid hI4
  clear hI hI1 hI2 hI3 hI4 hF hT1 hT2 hT3 hT4
  by_cases hc : tcode J xs fs rs ps su t q = 0
  rotate_left
  · have HG := Lib.hid (teF_no hc)
    generalize tcode J xs fs rs ps su t q = code at *
    go_enter Try.func32, Try.ntmps32
    go_wp2_with fail
    generalize (w.alloc (.cells #[.int .i64 J, .slice A xs.length cp] 31)) = w0 at *
    refine (HC.out _ be0).mono ?_
    rintro e w1 ⟨rfl, hb1⟩
    have sz1 : w0.heap.size ≤ w1.heap.size := hb1.size
    have be1 := be0.trans (hb1.mono be0.size)
    have m0_1 := cell_later hb1 m0_0
    have m1_1 := cell_later hb1 m1_0
    clear m0_0 m1_0
    go_wp2_with fail
    go_ret2
    exact ⟨_, ret_vi (by rw [HR.out, HG.out]), by rw [HR.out, HG.out]; exact Own.nil_ _ _, be1⟩
  obtain ⟨N, rfl⟩ := mineB_nat (tcode_zero hc).1
  obtain ⟨o1, o2, o3⟩ := Hx.ok_of hc
  have HG := Lib.hid (teF_yes hc)
  have HT := Lib.hid (fun (W : World) (hb : Below w.heap.size w W) => temperatures_any ⟨xs, fs, rs, ps, q⟩ N A cp A1 c1 A2 c2 A3 c3 A4 c4 su t W o1 ((J0.out.below hb).more hb.size) ((J1.out.below hb).more hb.size) ((J2.out.below hb).more hb.size) ((J3.out.below hb).more hb.size) ((J4.out.below hb).more hb.size) n4 o2 o3)
  rw [hc] at HC
  clear hc o1 o2
  go_enter Try.func32, Try.ntmps32
  go_wp2_with fail
  generalize (w.alloc (.cells #[.int .i64 (N : Int), .slice A xs.length cp] 31)) = w0 at *
  refine (HC.out _ be0).mono ?_
  rintro e w1 ⟨rfl, hb1⟩
  have sz1 : w0.heap.size ≤ w1.heap.size := hb1.size
  have be1 := be0.trans (hb1.mono be0.size)
  have m0_1 := cell_later hb1 m0_0
  have m1_1 := cell_later hb1 m1_0
  clear m0_0 m1_0
  go_wp2_with fail
  refine (HT.out _ be1).mono ?_
  rintro e w2 ⟨u, rfl, ho, hb2⟩
  have sz2 : w1.heap.size ≤ w2.heap.size := hb2.size
  have be2 := be1.trans (hb2.mono be1.size)
  have m0_2 := cell_later hb2 m0_1
  have m1_2 := cell_later hb2 m1_1
  have HO := Lib.hid ho
  clear ho
  clear m0_1 m1_1
  go_wp2_with fail
  go_ret2
  refine ⟨_, ret_vi (by rw [HR.out, HG.out]), ?_, be2⟩
  rw [HR.out, HG.out]
  exact HO.out.base (fun g h => by have := (World.ownsRow.lt HO.out g h).1; have := be1.size; omega)
set_option maxRecDepth 100000 in
set_option maxHeartbeats 1600000 in
theorem TemperaturesAt_s (J : Int) (A : Option Addr) (cp : Nat) (xs : List Aw) (A1 : Option Addr) (c1 : Nat) (fs : List Int) (A2 : Option Addr) (c2 : Nat) (rs : List Int) (A3 : Option Addr) (c3 : Nat) (ps : List Int) (A4 : Option Addr) (c4 : Nat) (su : List Int) (t q : Int) (w : World)
    (hx : (xs.length : Int) ≤ 1048576) (hF : FitsA xs) (hI : Recs encA 7 w.heap.size w A xs) (n1 : (fs.length : Int) ≤ 1048576) (hI1 : Ints w.heap.size w A1 fs) (_ : Fits fs) (n2 : (rs.length : Int) ≤ 1048576) (hI2 : Ints w.heap.size w A2 rs) (_ : Fits rs)
    (n3 : (ps.length : Int) ≤ 1048576) (hI3 : Ints w.heap.size w A3 ps) (_ : Fits ps) (n4 : (su.length : Int) ≤ 1048576) (hI4 : Ints w.heap.size w A4 su) (_ : Fits su) (_ : -9223372036854775808 ≤ t ∧ t ≤ 9223372036854775807) (_ : -9223372036854775808 ≤ q ∧ q ≤ 9223372036854775807) :
    Calls Try.prog 31 #[.agg #[.int .i64 J, .slice A xs.length cp], .slice A1 fs.length c1, .slice A2 rs.length c2, .slice A3 ps.length c3, .slice A4 su.length c4, .int .i64 t, .int .i64 q] w fun e w' => ∃ u, e = .returned (.tuple #[u, .int .i64 (teF J xs fs rs ps su t q).2]) ∧ Own w.heap.size w' u (teF J xs fs rs ps su t q).1 ∧ Below w.heap.size w w' := by
  obtain ⟨R, hR⟩ : ∃ R, R = teF J xs fs rs ps su t q := ⟨_, rfl⟩
  rw [← hR]
  have HR := Lib.hid hR
  clear hR
  have be0 : Below w.heap.size w (w.alloc (.cells #[.int .i64 J, .slice A xs.length cp] 31)) := by go_grown
  have m0_0 : ((w.alloc (.cells #[.int .i64 J, .slice A xs.length cp] 31))).cell? ⟨w.heap.size, 0, none⟩ = some (.int .i64 J) := by go_simp
  have m1_0 : ((w.alloc (.cells #[.int .i64 J, .slice A xs.length cp] 31))).cell? ⟨w.heap.size, 1, none⟩ = some (.slice A xs.length cp) := by go_simp
  have HC := Lib.hid (fun (W : World) (hb : Below w.heap.size w W) (m0 : W.cell? ⟨w.heap.size, 0, none⟩ = some (.int .i64 J)) (m1 : W.cell? ⟨w.heap.size, 1, none⟩ = some (.slice A xs.length cp)) => (l16Ask_any w.heap.size 0 J A cp xs A1 c1 fs A2 c2 rs A3 c3 ps A4 c4 su t q w.heap.size W hx hF (hI.below hb) n1 (hI1.below hb) n2 (hI2.below hb) n3 (hI3.below hb) n4 (hI4.below hb) m0 m1).mono (fun e w' (h : _ ∧ ∃ n, W.drewN n = w') => (⟨h.1, by obtain ⟨_, n, rfl⟩ := h; exact below_drewN (Below.refl _ _) n⟩ : _ ∧ Below W.heap.size W w')))
  have J0 := Lib.hid hI
  have J1 := Lib.hid hI1
  have J2 := Lib.hid hI2
  have J3 := Lib.hid hI3
  have J4 := Lib.hid hI4
  clear hI hI1 hI2 hI3 hI4 hF
  by_cases hc : tcode J xs fs rs ps su t q = 0
  rotate_left
  · have HG := Lib.hid (teF_no hc)
    generalize tcode J xs fs rs ps su t q = code at *
    go_enter Try.func31, Try.ntmps31
    go_wp2_with fail
    generalize (w.alloc (.cells #[.int .i64 J, .slice A xs.length cp] 31)) = w0 at *
    refine (HC.out _ be0 m0_0 m1_0).mono ?_
    rintro e w1 ⟨rfl, hb1⟩
    have sz1 : w0.heap.size ≤ w1.heap.size := hb1.size
    have be1 := be0.trans (hb1.mono be0.size)
    have m0_1 := cell_later hb1 m0_0
    have m1_1 := cell_later hb1 m1_0
    clear m0_0 m1_0
    go_wp2_with fail
    go_ret2
    exact ⟨_, ret_vi (by rw [HR.out, HG.out]), by rw [HR.out, HG.out]; exact Own.nil_ _ _, be1⟩
  obtain ⟨N, rfl⟩ := mineB_nat (tcode_zero hc).1
  obtain ⟨o1, o2, o3⟩ := Hx.ok_of hc
  have HG := Lib.hid (teF_yes hc)
  have HT := Lib.hid (fun (W : World) (hb : Below w.heap.size w W) (m0 : W.cell? ⟨w.heap.size, 0, none⟩ = some (.int .i64 (N : Int))) (m1 : W.cell? ⟨w.heap.size, 1, none⟩ = some (.slice A xs.length cp)) => l16All_any ⟨xs, fs, rs, ps, q⟩ w.heap.size 0 N A cp A1 c1 A2 c2 A3 c3 A4 c4 su t W o1 ((J0.out.below hb).more hb.size) ((J1.out.below hb).more hb.size) ((J2.out.below hb).more hb.size) ((J3.out.below hb).more hb.size) ((J4.out.below hb).more hb.size) n4 o3 m0 m1)
  rw [hc] at HC
  clear hc o1 o2
  go_enter Try.func31, Try.ntmps31
  go_wp2_with fail
  generalize (w.alloc (.cells #[.int .i64 (N : Int), .slice A xs.length cp] 31)) = w0 at *
  refine (HC.out _ be0 m0_0 m1_0).mono ?_
  rintro e w1 ⟨rfl, hb1⟩
  have sz1 : w0.heap.size ≤ w1.heap.size := hb1.size
  have be1 := be0.trans (hb1.mono be0.size)
  have m0_1 := cell_later hb1 m0_0
  have m1_1 := cell_later hb1 m1_0
  clear m0_0 m1_0
  go_wp2_with fail
  refine (HT.out _ be1 m0_1 m1_1).mono ?_
  rintro e w2 ⟨u, rfl, ho, hb2⟩
  have sz2 : w1.heap.size ≤ w2.heap.size := hb2.size
  have be2 := be1.trans (hb2.mono be1.size)
  have m0_2 := cell_later hb2 m0_1
  have m1_2 := cell_later hb2 m1_1
  have HO := Lib.hid ho
  clear ho
  clear m0_1 m1_1
  go_wp2_with fail
  go_ret2
  refine ⟨_, ret_vi (by rw [HR.out, HG.out]), ?_, be2⟩
  rw [HR.out, HG.out]
  exact HO.out.base (fun g h => by have := (World.ownsRow.lt HO.out g h).1; have := be1.size; omega)
set_option maxRecDepth 100000 in
set_option maxHeartbeats 3200000 in
theorem fnExactTemperaturesAt_walk {w : World} (J : Int) (A0 : Option Addr) (c0 : Nat) (xs0 : List Aw) (I0 : Recs encA 7 w.heap.size w A0 xs0) (F0 : FitsA xs0) (l0 : xs0.length ≤ maxLen) (A1 : Option Addr) (c1 : Nat) (xs1 : List Int) (I1 : Ints w.heap.size w A1 xs1) (T1 : Fits xs1) (_ : xs1.length ≤ maxLen) (A2 : Option Addr) (c2 : Nat) (xs2 : List Int) (I2 : Ints w.heap.size w A2 xs2) (T2 : Fits xs2) (_ : xs2.length ≤ maxLen) (A3 : Option Addr) (c3 : Nat) (xs3 : List Int) (I3 : Ints w.heap.size w A3 xs3) (T3 : Fits xs3) (_ : xs3.length ≤ maxLen) (A4 : Option Addr) (c4 : Nat) (xs4 : List Int) (I4 : Ints w.heap.size w A4 xs4) (T4 : Fits xs4) (_ : xs4.length ≤ maxLen) (a5 : Int) (b5 : -9223372036854775808 ≤ a5 ∧ a5 ≤ 9223372036854775807) (a6 : Int) (b6 : -9223372036854775808 ≤ a6 ∧ a6 ≤ 9223372036854775807) :
    Calls Try.prog 8 #[.agg #[.int .i64 J, .slice A0 xs0.length c0], .slice A1 xs1.length c1, .slice A2 xs2.length c2, .slice A3 xs3.length c3, .slice A4 xs4.length c4, .int .i64 a5, .int .i64 a6] w fun e w' => e = .returned (.bool true) ∧ Below w.heap.size w w' := by
  by_cases hn1 : (xs1.length : Int) ≤ 1048576
  rotate_left
  · go_enter Try.func8, Try.ntmps8
    go_wp2
    go_ret
    exact ⟨rfl, by go_grown⟩
  by_cases hn2 : (xs2.length : Int) ≤ 1048576
  rotate_left
  · go_enter Try.func8, Try.ntmps8
    go_wp2
    go_ret
    exact ⟨rfl, by go_grown⟩
  by_cases hn3 : (xs3.length : Int) ≤ 1048576
  rotate_left
  · go_enter Try.func8, Try.ntmps8
    go_wp2
    go_ret
    exact ⟨rfl, by go_grown⟩
  by_cases hn4 : (xs4.length : Int) ≤ 1048576
  rotate_left
  · go_enter Try.func8, Try.ntmps8
    go_wp2
    go_ret
    exact ⟨rfl, by go_grown⟩
  have hb0 : Below w.heap.size w (w.alloc (.cells #[.int .i64 J, .slice A0 xs0.length c0] 24)) := by go_grown
  have HI0 := Lib.hid I0
  have HF0 := Lib.hid F0
  have HT1 := Lib.hid T1
  have HI1 := Lib.hid I1
  have HT2 := Lib.hid T2
  have HI2 := Lib.hid I2
  have HT3 := Lib.hid T3
  have HI3 := Lib.hid I3
  have HT4 := Lib.hid T4
  have HI4 := Lib.hid I4
  have HS := Lib.hid (fun (W : World) (hb : Below w.heap.size w W) => szMine_any J A0 c0 xs0 1048576 w.heap.size W (by omega) (by omega) l0 F0 (I0.below hb) hb.size)
  clear I0 F0 T1 I1 T2 I2 T3 I3 T4 I4
  have hR : (teF J xs0 xs1 xs2 xs3 xs4 a5 a6).1.length ≤ 1048576 := teF_len J xs0 xs1 xs2 xs3 xs4 a5 a6
  have hor : szA xs0 1048576 < 0 ∨ (0 ≤ szA xs0 1048576 ∧ (xs0.length : Int) ≤ 1048576) := szA_or xs0
  generalize szA xs0 1048576 = q at *
  rcases hor with hq | ⟨hq, hn0⟩
  · go_enter Try.func8, Try.ntmps8
    go_wp2_with fail
    refine (HS.out _ hb0).mono ?_
    rintro e w1 ⟨rfl, hb1⟩
    go_wp2_with fail
    go_ret
    exact ⟨rfl, hb0.trans (hb1.mono hb0.size)⟩
  go_enter Try.func8, Try.ntmps8
  go_wp2_with fail
  refine (HS.out _ hb0).mono ?_
  rintro e w1 ⟨rfl, hb1⟩
  have mA1 : w1.cell? ⟨w.heap.size, 0, none⟩ = some (.int .i64 J) := by rw [(bcell hb1).1 _ _ (by simp)]; go_simp
  have mB1 : w1.cell? ⟨w.heap.size, 1, none⟩ = some (.slice A0 xs0.length c0) := by rw [(bcell hb1).1 _ _ (by simp)]; go_simp
  have be1 := hb0.trans (hb1.mono hb0.size)
  have sz1 : w.heap.size < w1.heap.size := by have := hb1.size; simp at this; omega
  clear hb1
  go_wp2_with fail
  refine (toMine_any J A0 c0 xs0 w.heap.size _ (by omega) (HI0.out.below be1) be1.size).mono ?_
  rintro e w2 ⟨v2, rfl, ho2, hb2⟩
  have sz2 : w1.heap.size ≤ w2.heap.size := hb2.size
  have be2 := be1.trans (hb2.mono be1.size)
  have mA2 := ((bcell hb2).1 _ _ (by omega)).trans mA1
  have mB2 := ((bcell hb2).1 _ _ (by omega)).trans mB1
  clear mA1 mB1
  obtain ⟨A_2, c_2, rfl, -, -⟩ := ho2.slice encA_len
  go_wp2_with fail
  refine (toInt64S_any A1 c1 xs1 w.heap.size _ (by omega) (HI1.out.below be2) be2.size).mono ?_
  rintro e w3 ⟨rfl, ho3, hb3⟩
  have sz3 : w2.heap.size ≤ w3.heap.size := hb3.size
  have be3 := be2.trans (hb3.mono be2.size)
  have mA3 := ((bcell hb3).1 _ _ (by omega)).trans mA2
  have mB3 := ((bcell hb3).1 _ _ (by omega)).trans mB2
  clear mA2 mB2
  go_wp2_with fail
  refine (toInt64S_any A2 c2 xs2 w.heap.size _ (by omega) (HI2.out.below be3) be3.size).mono ?_
  rintro e w4 ⟨rfl, ho4, hb4⟩
  have sz4 : w3.heap.size ≤ w4.heap.size := hb4.size
  have be4 := be3.trans (hb4.mono be3.size)
  have mA4 := ((bcell hb4).1 _ _ (by omega)).trans mA3
  have mB4 := ((bcell hb4).1 _ _ (by omega)).trans mB3
  clear mA3 mB3
  go_wp2_with fail
  refine (toInt64S_any A3 c3 xs3 w.heap.size _ (by omega) (HI3.out.below be4) be4.size).mono ?_
  rintro e w5 ⟨rfl, ho5, hb5⟩
  have sz5 : w4.heap.size ≤ w5.heap.size := hb5.size
  have be5 := be4.trans (hb5.mono be4.size)
  have mA5 := ((bcell hb5).1 _ _ (by omega)).trans mA4
  have mB5 := ((bcell hb5).1 _ _ (by omega)).trans mB4
  clear mA4 mB4
  go_wp2_with fail
  refine (toInt64S_any A4 c4 xs4 w.heap.size _ (by omega) (HI4.out.below be5) be5.size).mono ?_
  rintro e w6 ⟨rfl, ho6, hb6⟩
  have sz6 : w5.heap.size ≤ w6.heap.size := hb6.size
  have be6 := be5.trans (hb6.mono be5.size)
  have mA6 := ((bcell hb6).1 _ _ (by omega)).trans mA5
  have mB6 := ((bcell hb6).1 _ _ (by omega)).trans mB5
  clear mA5 mB5
  go_wp2_with fail
  refine (TemperaturesAt_s J _ _ xs0 _ _ xs1 _ _ xs2 _ _ xs3 _ _ xs4 a5 a6 _ (by omega) HF0.out (((((ho2.later hb3).later hb4).later hb5).later hb6).rows encA_len) hn1 (((ho3.later hb4).later hb5).later hb6).ints HT1.out hn2 ((ho4.later hb5).later hb6).ints HT2.out hn3 (ho5.later hb6).ints HT3.out hn4 ho6.ints HT4.out b5 b6).mono ?_
  rintro e w7 ⟨v7, rfl, ho7, hb7⟩
  have sz7 : w6.heap.size ≤ w7.heap.size := hb7.size
  have be7 := be6.trans (hb7.mono be6.size)
  have mA7 := ((bcell hb7).1 _ _ (by omega)).trans mA6
  have mB7 := ((bcell hb7).1 _ _ (by omega)).trans mB6
  clear mA6 mB6
  obtain ⟨A_7, c_7, rfl, -, -⟩ := ho7.slice
  go_wp2_with fail
  refine (toMine_any J A0 c0 xs0 w.heap.size _ (by omega) (HI0.out.below be7) be7.size).mono ?_
  rintro e w8 ⟨v8, rfl, ho8, hb8⟩
  have sz8 : w7.heap.size ≤ w8.heap.size := hb8.size
  have be8 := be7.trans (hb8.mono be7.size)
  have mA8 := ((bcell hb8).1 _ _ (by omega)).trans mA7
  have mB8 := ((bcell hb8).1 _ _ (by omega)).trans mB7
  clear mA7 mB7
  obtain ⟨A_8, c_8, rfl, -, -⟩ := ho8.slice encA_len
  go_wp2_with fail
  have hb9 : Below w8.heap.size w8 (w8.alloc (.cells #[.int .i64 J, .slice A_8 xs0.length c_8] 31)) := (Below.refl _ _).alloc (Nat.le_refl _) _
  have nA9 : (w8.alloc (.cells #[.int .i64 J, .slice A_8 xs0.length c_8] 31)).cell? ⟨w8.heap.size, 0, none⟩ = some (.int .i64 J) := by go_simp
  have nB9 : (w8.alloc (.cells #[.int .i64 J, .slice A_8 xs0.length c_8] 31)).cell? ⟨w8.heap.size, 1, none⟩ = some (.slice A_8 xs0.length c_8) := by go_simp
  have lt9 : w8.heap.size < (w8.alloc (.cells #[.int .i64 J, .slice A_8 xs0.length c_8] 31)).heap.size := by simp
  generalize (w8.alloc (.cells #[.int .i64 J, .slice A_8 xs0.length c_8] 31)) = w9 at *
  have sz9 : w8.heap.size ≤ w9.heap.size := hb9.size
  have be9 := be8.trans (hb9.mono be8.size)
  have mA9 := ((bcell hb9).1 _ _ (by omega)).trans mA8
  have mB9 := ((bcell hb9).1 _ _ (by omega)).trans mB8
  clear mA8 mB8
  refine (toInt64S_any A1 c1 xs1 w.heap.size _ (by omega) (HI1.out.below be9) be9.size).mono ?_
  rintro e w10 ⟨rfl, ho10, hb10⟩
  have sz10 : w9.heap.size ≤ w10.heap.size := hb10.size
  have be10 := be9.trans (hb10.mono be9.size)
  have mA10 := ((bcell hb10).1 _ _ (by omega)).trans mA9
  have mB10 := ((bcell hb10).1 _ _ (by omega)).trans mB9
  have nA10 := ((bcell hb10).1 _ _ (by omega)).trans nA9
  have nB10 := ((bcell hb10).1 _ _ (by omega)).trans nB9
  clear mA9 mB9 nA9 nB9
  go_wp2_with fail
  refine (toInt64S_any A2 c2 xs2 w.heap.size _ (by omega) (HI2.out.below be10) be10.size).mono ?_
  rintro e w11 ⟨rfl, ho11, hb11⟩
  have sz11 : w10.heap.size ≤ w11.heap.size := hb11.size
  have be11 := be10.trans (hb11.mono be10.size)
  have mA11 := ((bcell hb11).1 _ _ (by omega)).trans mA10
  have mB11 := ((bcell hb11).1 _ _ (by omega)).trans mB10
  have nA11 := ((bcell hb11).1 _ _ (by omega)).trans nA10
  have nB11 := ((bcell hb11).1 _ _ (by omega)).trans nB10
  clear mA10 mB10 nA10 nB10
  go_wp2_with fail
  refine (toInt64S_any A3 c3 xs3 w.heap.size _ (by omega) (HI3.out.below be11) be11.size).mono ?_
  rintro e w12 ⟨rfl, ho12, hb12⟩
  have sz12 : w11.heap.size ≤ w12.heap.size := hb12.size
  have be12 := be11.trans (hb12.mono be11.size)
  have mA12 := ((bcell hb12).1 _ _ (by omega)).trans mA11
  have mB12 := ((bcell hb12).1 _ _ (by omega)).trans mB11
  have nA12 := ((bcell hb12).1 _ _ (by omega)).trans nA11
  have nB12 := ((bcell hb12).1 _ _ (by omega)).trans nB11
  clear mA11 mB11 nA11 nB11
  go_wp2_with fail
  refine (toInt64S_any A4 c4 xs4 w.heap.size _ (by omega) (HI4.out.below be12) be12.size).mono ?_
  rintro e w13 ⟨rfl, ho13, hb13⟩
  have sz13 : w12.heap.size ≤ w13.heap.size := hb13.size
  have be13 := be12.trans (hb13.mono be12.size)
  have mA13 := ((bcell hb13).1 _ _ (by omega)).trans mA12
  have mB13 := ((bcell hb13).1 _ _ (by omega)).trans mB12
  have nA13 := ((bcell hb13).1 _ _ (by omega)).trans nA12
  have nB13 := ((bcell hb13).1 _ _ (by omega)).trans nB12
  clear mA12 mB12 nA12 nB12
  go_wp2_with fail
  refine (TemperaturesAt_i J _ _ xs0 _ _ xs1 _ _ xs2 _ _ xs3 _ _ xs4 a5 a6 _ (by omega) HF0.out ((((((ho8.later hb9).later hb10).later hb11).later hb12).later hb13).rows encA_len) hn1 (((ho10.later hb11).later hb12).later hb13).ints HT1.out hn2 ((ho11.later hb12).later hb13).ints HT2.out hn3 (ho12.later hb13).ints HT3.out hn4 ho13.ints HT4.out b5 b6).mono ?_
  rintro e w14 ⟨v14, rfl, ho14, hb14⟩
  have sz14 : w13.heap.size ≤ w14.heap.size := hb14.size
  have be14 := be13.trans (hb14.mono be13.size)
  have mA14 := ((bcell hb14).1 _ _ (by omega)).trans mA13
  have mB14 := ((bcell hb14).1 _ _ (by omega)).trans mB13
  have nA14 := ((bcell hb14).1 _ _ (by omega)).trans nA13
  have nB14 := ((bcell hb14).1 _ _ (by omega)).trans nB13
  clear mA13 mB13 nA13 nB13
  obtain ⟨A_14, c_14, rfl, -, -⟩ := ho14.slice
  go_wp2_with fail
  refine (dB (eqInt64S_yes _ _ _ _ (teF J xs0 xs1 xs2 xs3 xs4 a5 a6).1 _ _ _ (by omega) ho14.ints (((((((ho7.later hb8).later hb9).later hb10).later hb11).later hb12).later hb13).later hb14).ints)).mono ?_
  rintro e w15 ⟨rfl, hb15⟩
  have sz15 : w14.heap.size ≤ w15.heap.size := hb15.size
  have be15 := be14.trans (hb15.mono be14.size)
  have mA15 := ((bcell hb15).1 _ _ (by omega)).trans mA14
  have mB15 := ((bcell hb15).1 _ _ (by omega)).trans mB14
  have nA15 := ((bcell hb15).1 _ _ (by omega)).trans nA14
  have nB15 := ((bcell hb15).1 _ _ (by omega)).trans nB14
  clear mA14 mB14 nA14 nB14
  go_wp2_with fail
  have hox := (((((((ho8.later hb9).later hb10).later hb11).later hb12).later hb13).later hb14).later hb15)
  have HX := Lib.hid hox
  clear hox
  have HBX := Lib.hid be15
  go_region_held3 (fun w' => (w'.cell? ⟨w.heap.size, 0, none⟩ = some (.int .i64 J) ∧ w'.cell? ⟨w.heap.size, 1, none⟩ = some (.slice A0 xs0.length c0)) ∧ (w'.cell? ⟨w8.heap.size, 0, none⟩ = some (.int .i64 J) ∧ w'.cell? ⟨w8.heap.size, 1, none⟩ = some (.slice A_8 xs0.length c_8)))
    (first
      | go_keep
      | exact ⟨⟨((bcell hb17).1 _ _ (by have := hb16.size; simp at this; omega)).trans (((bcell hb16).1 _ _ (by simp <;> omega)).trans mA15), ((bcell hb17).1 _ _ (by have := hb16.size; simp at this; omega)).trans (((bcell hb16).1 _ _ (by simp <;> omega)).trans mB15)⟩, ((bcell hb17).1 _ _ (by have := hb16.size; simp at this; omega)).trans (((bcell hb16).1 _ _ (by simp <;> omega)).trans nA15), ((bcell hb17).1 _ _ (by have := hb16.size; simp at this; omega)).trans (((bcell hb16).1 _ _ (by simp <;> omega)).trans nB15)⟩
      | exact ⟨⟨((bcell hb16).1 _ _ (by simp <;> omega)).trans mA15, ((bcell hb16).1 _ _ (by simp <;> omega)).trans mB15⟩, ((bcell hb16).1 _ _ (by simp <;> omega)).trans nA15, ((bcell hb16).1 _ _ (by simp <;> omega)).trans nB15⟩)
    (first
      | (go_at_call 12; refine (toMine_any J A0 c0 xs0 w.heap.size _ (by omega) (by first | exact HI0.out.below HBX.out | exact HI0.out.below HBX.out.drew) (by first | exact HBX.out.size | exact HBX.out.drew.size)).mono ?_; rintro e w16 ⟨v16, rfl, ho16, hb16⟩; obtain ⟨A_16, c_16, rfl, -, -⟩ := ho16.slice encA_len)
      | (go_at_call 16; refine (eqMine_yes J _ _ _ _ xs0 _ _ _ (by omega) (by first | exact (HX.out.later hb16).rows encA_len | exact ((HX.out.later (Below.refl _ _).drew).later hb16).rows encA_len) (ho16.rows encA_len) (Nat.le_refl _) (Nat.le_refl _)).mono ?_; rintro e w17 ⟨rfl, hb17⟩))
  have hcx : Below w15.heap.size w15 w16 := ((Below.refl w15.heap.size w15).drew).trans (hb16.mono (by simp))
  clear hb16
  have hb16 := hcx
  clear hcx
  have sz16 : w15.heap.size ≤ w16.heap.size := hb16.size
  have be16 := be15.trans (hb16.mono be15.size)
  have mA16 := ((bcell hb16).1 _ _ (by omega)).trans mA15
  have mB16 := ((bcell hb16).1 _ _ (by omega)).trans mB15
  have nA16 := ((bcell hb16).1 _ _ (by omega)).trans nA15
  have nB16 := ((bcell hb16).1 _ _ (by omega)).trans nB15
  clear mA15 mB15 nA15 nB15
  have sz17 : w16.heap.size ≤ w17.heap.size := hb17.size
  have be17 := be16.trans (hb17.mono be16.size)
  have mA17 := ((bcell hb17).1 _ _ (by omega)).trans mA16
  have mB17 := ((bcell hb17).1 _ _ (by omega)).trans mB16
  have nA17 := ((bcell hb17).1 _ _ (by omega)).trans nA16
  have nB17 := ((bcell hb17).1 _ _ (by omega)).trans nB16
  clear mA16 mB16 nA16 nB16
  go_wp2_with fail
  refine (toInt64S_any A1 c1 xs1 w.heap.size _ (by omega) (HI1.out.below be17) be17.size).mono ?_
  rintro e w18 ⟨rfl, ho18, hb18⟩
  have sz18 : w17.heap.size ≤ w18.heap.size := hb18.size
  have be18 := be17.trans (hb18.mono be17.size)
  have mA18 := ((bcell hb18).1 _ _ (by omega)).trans mA17
  have mB18 := ((bcell hb18).1 _ _ (by omega)).trans mB17
  have nA18 := ((bcell hb18).1 _ _ (by omega)).trans nA17
  have nB18 := ((bcell hb18).1 _ _ (by omega)).trans nB17
  clear mA17 mB17 nA17 nB17
  go_wp2_with fail
  refine (dB (eqInt64S_yes _ _ _ _ xs1 _ _ _ (by omega) ((((((((ho10.later hb11).later hb12).later hb13).later hb14).later hb15).later hb16).later hb17).later hb18).ints ho18.ints)).mono ?_
  rintro e w19 ⟨rfl, hb19⟩
  have sz19 : w18.heap.size ≤ w19.heap.size := hb19.size
  have be19 := be18.trans (hb19.mono be18.size)
  have mA19 := ((bcell hb19).1 _ _ (by omega)).trans mA18
  have mB19 := ((bcell hb19).1 _ _ (by omega)).trans mB18
  have nA19 := ((bcell hb19).1 _ _ (by omega)).trans nA18
  have nB19 := ((bcell hb19).1 _ _ (by omega)).trans nB18
  clear mA18 mB18 nA18 nB18
  go_wp2_with fail
  refine (toInt64S_any A2 c2 xs2 w.heap.size _ (by omega) (HI2.out.below be19) be19.size).mono ?_
  rintro e w20 ⟨rfl, ho20, hb20⟩
  have sz20 : w19.heap.size ≤ w20.heap.size := hb20.size
  have be20 := be19.trans (hb20.mono be19.size)
  have mA20 := ((bcell hb20).1 _ _ (by omega)).trans mA19
  have mB20 := ((bcell hb20).1 _ _ (by omega)).trans mB19
  have nA20 := ((bcell hb20).1 _ _ (by omega)).trans nA19
  have nB20 := ((bcell hb20).1 _ _ (by omega)).trans nB19
  clear mA19 mB19 nA19 nB19
  go_wp2_with fail
  refine (dB (eqInt64S_yes _ _ _ _ xs2 _ _ _ (by omega) (((((((((ho11.later hb12).later hb13).later hb14).later hb15).later hb16).later hb17).later hb18).later hb19).later hb20).ints ho20.ints)).mono ?_
  rintro e w21 ⟨rfl, hb21⟩
  have sz21 : w20.heap.size ≤ w21.heap.size := hb21.size
  have be21 := be20.trans (hb21.mono be20.size)
  have mA21 := ((bcell hb21).1 _ _ (by omega)).trans mA20
  have mB21 := ((bcell hb21).1 _ _ (by omega)).trans mB20
  have nA21 := ((bcell hb21).1 _ _ (by omega)).trans nA20
  have nB21 := ((bcell hb21).1 _ _ (by omega)).trans nB20
  clear mA20 mB20 nA20 nB20
  go_wp2_with fail
  refine (toInt64S_any A3 c3 xs3 w.heap.size _ (by omega) (HI3.out.below be21) be21.size).mono ?_
  rintro e w22 ⟨rfl, ho22, hb22⟩
  have sz22 : w21.heap.size ≤ w22.heap.size := hb22.size
  have be22 := be21.trans (hb22.mono be21.size)
  have mA22 := ((bcell hb22).1 _ _ (by omega)).trans mA21
  have mB22 := ((bcell hb22).1 _ _ (by omega)).trans mB21
  have nA22 := ((bcell hb22).1 _ _ (by omega)).trans nA21
  have nB22 := ((bcell hb22).1 _ _ (by omega)).trans nB21
  clear mA21 mB21 nA21 nB21
  go_wp2_with fail
  refine (dB (eqInt64S_yes _ _ _ _ xs3 _ _ _ (by omega) ((((((((((ho12.later hb13).later hb14).later hb15).later hb16).later hb17).later hb18).later hb19).later hb20).later hb21).later hb22).ints ho22.ints)).mono ?_
  rintro e w23 ⟨rfl, hb23⟩
  have sz23 : w22.heap.size ≤ w23.heap.size := hb23.size
  have be23 := be22.trans (hb23.mono be22.size)
  have mA23 := ((bcell hb23).1 _ _ (by omega)).trans mA22
  have mB23 := ((bcell hb23).1 _ _ (by omega)).trans mB22
  have nA23 := ((bcell hb23).1 _ _ (by omega)).trans nA22
  have nB23 := ((bcell hb23).1 _ _ (by omega)).trans nB22
  clear mA22 mB22 nA22 nB22
  go_wp2_with fail
  refine (toInt64S_any A4 c4 xs4 w.heap.size _ (by omega) (HI4.out.below be23) be23.size).mono ?_
  rintro e w24 ⟨rfl, ho24, hb24⟩
  have sz24 : w23.heap.size ≤ w24.heap.size := hb24.size
  have be24 := be23.trans (hb24.mono be23.size)
  have mA24 := ((bcell hb24).1 _ _ (by omega)).trans mA23
  have mB24 := ((bcell hb24).1 _ _ (by omega)).trans mB23
  have nA24 := ((bcell hb24).1 _ _ (by omega)).trans nA23
  have nB24 := ((bcell hb24).1 _ _ (by omega)).trans nB23
  clear mA23 mB23 nA23 nB23
  go_wp2_with fail
  refine (dB (eqInt64S_yes _ _ _ _ xs4 _ _ _ (by omega) (((((((((((ho13.later hb14).later hb15).later hb16).later hb17).later hb18).later hb19).later hb20).later hb21).later hb22).later hb23).later hb24).ints ho24.ints)).mono ?_
  rintro e w25 ⟨rfl, hb25⟩
  have sz25 : w24.heap.size ≤ w25.heap.size := hb25.size
  have be25 := be24.trans (hb25.mono be24.size)
  have mA25 := ((bcell hb25).1 _ _ (by omega)).trans mA24
  have mB25 := ((bcell hb25).1 _ _ (by omega)).trans mB24
  have nA25 := ((bcell hb25).1 _ _ (by omega)).trans nA24
  have nB25 := ((bcell hb25).1 _ _ (by omega)).trans nB24
  clear mA24 mB24 nA24 nB24
  go_wp2_with fail
  refine (markMine_own J _ xs0 1 _ _ (by omega) (by omega) (by omega) (((((((((((((((((ho8.later hb9).later hb10).later hb11).later hb12).later hb13).later hb14).later hb15).later hb16).later hb17).later hb18).later hb19).later hb20).later hb21).later hb22).later hb23).later hb24).later hb25)).mono ?_
  rintro e w26 ⟨rfl, _, hg26⟩
  have sz26 : w25.heap.size ≤ w26.heap.size := hg26.size
  have be26 : Below w.heap.size w w26 := be25.grown hg26 be25.size (fun g h => by have := (World.ownsRow.lt ho8 g h).1; omega)
  have mA26 := hg26.cell mA25 (fun e => by have := (World.ownsRow.lt ho8 _ e.symm).1; simp at this; omega)
  have mB26 := hg26.cell mB25 (fun e => by have := (World.ownsRow.lt ho8 _ e.symm).1; simp at this; omega)
  clear mA25 mB25
  go_wp2_with fail
  refine (markInt64S_own _ _ _ xs1 (1 + 7 * (xs0.length : Int)) _ _ (by omega) (by omega) (by omega) rfl ((((((((((((((((ho10.later hb11).later hb12).later hb13).later hb14).later hb15).later hb16).later hb17).later hb18).later hb19).later hb20).later hb21).later hb22).later hb23).later hb24).later hb25).kept hg26 (apart_rows ho10 ho8 (by omega)))).mono ?_
  rintro e w27 ⟨rfl, _, hg27⟩
  have sz27 : w26.heap.size ≤ w27.heap.size := hg27.size
  have be27 : Below w.heap.size w w27 := be26.grown hg27 be26.size (fun g h => by have := (World.ownsRow.lt ho10 g h).1; omega)
  have mA27 := hg27.cell mA26 (fun e => by have := (World.ownsRow.lt ho10 _ e.symm).1; simp at this; omega)
  have mB27 := hg27.cell mB26 (fun e => by have := (World.ownsRow.lt ho10 _ e.symm).1; simp at this; omega)
  clear mA26 mB26
  go_wp2_with fail
  refine (markInt64S_own _ _ _ xs2 (1 + 7 * (xs0.length : Int) + (xs1.length : Int)) _ _ (by omega) (by omega) (by omega) rfl ((((((((((((((((ho11.later hb12).later hb13).later hb14).later hb15).later hb16).later hb17).later hb18).later hb19).later hb20).later hb21).later hb22).later hb23).later hb24).later hb25).kept hg26 (apart_rows ho11 ho8 (by omega))).kept hg27 (apart_rows ho11 ho10 (by omega)))).mono ?_
  rintro e w28 ⟨rfl, _, hg28⟩
  have sz28 : w27.heap.size ≤ w28.heap.size := hg28.size
  have be28 : Below w.heap.size w w28 := be27.grown hg28 be27.size (fun g h => by have := (World.ownsRow.lt ho11 g h).1; omega)
  have mA28 := hg28.cell mA27 (fun e => by have := (World.ownsRow.lt ho11 _ e.symm).1; simp at this; omega)
  have mB28 := hg28.cell mB27 (fun e => by have := (World.ownsRow.lt ho11 _ e.symm).1; simp at this; omega)
  clear mA27 mB27
  go_wp2_with fail
  refine (markInt64S_own _ _ _ xs3 (1 + 7 * (xs0.length : Int) + (xs1.length : Int) + (xs2.length : Int)) _ _ (by omega) (by omega) (by omega) rfl ((((((((((((((((ho12.later hb13).later hb14).later hb15).later hb16).later hb17).later hb18).later hb19).later hb20).later hb21).later hb22).later hb23).later hb24).later hb25).kept hg26 (apart_rows ho12 ho8 (by omega))).kept hg27 (apart_rows ho12 ho10 (by omega))).kept hg28 (apart_rows ho12 ho11 (by omega)))).mono ?_
  rintro e w29 ⟨rfl, _, hg29⟩
  have sz29 : w28.heap.size ≤ w29.heap.size := hg29.size
  have be29 : Below w.heap.size w w29 := be28.grown hg29 be28.size (fun g h => by have := (World.ownsRow.lt ho12 g h).1; omega)
  have mA29 := hg29.cell mA28 (fun e => by have := (World.ownsRow.lt ho12 _ e.symm).1; simp at this; omega)
  have mB29 := hg29.cell mB28 (fun e => by have := (World.ownsRow.lt ho12 _ e.symm).1; simp at this; omega)
  clear mA28 mB28
  go_wp2_with fail
  refine (markInt64S_own _ _ _ xs4 (1 + 7 * (xs0.length : Int) + (xs1.length : Int) + (xs2.length : Int) + (xs3.length : Int)) _ _ (by omega) (by omega) (by omega) rfl ((((((((((((((((ho13.later hb14).later hb15).later hb16).later hb17).later hb18).later hb19).later hb20).later hb21).later hb22).later hb23).later hb24).later hb25).kept hg26 (apart_rows ho13 ho8 (by omega))).kept hg27 (apart_rows ho13 ho10 (by omega))).kept hg28 (apart_rows ho13 ho11 (by omega))).kept hg29 (apart_rows ho13 ho12 (by omega)))).mono ?_
  rintro e w30 ⟨rfl, _, hg30⟩
  have sz30 : w29.heap.size ≤ w30.heap.size := hg30.size
  have be30 : Below w.heap.size w w30 := be29.grown hg30 be29.size (fun g h => by have := (World.ownsRow.lt ho13 g h).1; omega)
  have mA30 := hg30.cell mA29 (fun e => by have := (World.ownsRow.lt ho13 _ e.symm).1; simp at this; omega)
  have mB30 := hg30.cell mB29 (fun e => by have := (World.ownsRow.lt ho13 _ e.symm).1; simp at this; omega)
  clear mA29 mB29
  go_wp2_with fail
  refine (dB (eqInt64S_yes _ _ _ _ (teF J xs0 xs1 xs2 xs3 xs4 a5 a6).1 _ _ _ (by omega) ((((((((((((((((ho14.later hb15).later hb16).later hb17).later hb18).later hb19).later hb20).later hb21).later hb22).later hb23).later hb24).later hb25).kept hg26 (apart_rows ho14 ho8 (by omega))).kept hg27 (apart_rows ho14 ho10 (by omega))).kept hg28 (apart_rows ho14 ho11 (by omega))).kept hg29 (apart_rows ho14 ho12 (by omega))).kept hg30 (apart_rows ho14 ho13 (by omega))).ints (((((((((((((((((((((((ho7.later hb8).later hb9).later hb10).later hb11).later hb12).later hb13).later hb14).later hb15).later hb16).later hb17).later hb18).later hb19).later hb20).later hb21).later hb22).later hb23).later hb24).later hb25).kept hg26 (apart_rows ho7 ho8 (by omega))).kept hg27 (apart_rows ho7 ho10 (by omega))).kept hg28 (apart_rows ho7 ho11 (by omega))).kept hg29 (apart_rows ho7 ho12 (by omega))).kept hg30 (apart_rows ho7 ho13 (by omega))).ints)).mono ?_
  rintro e w31 ⟨rfl, hb31⟩
  have sz31 : w30.heap.size ≤ w31.heap.size := hb31.size
  have be31 := be30.trans (hb31.mono be30.size)
  have mA31 := ((bcell hb31).1 _ _ (by omega)).trans mA30
  have mB31 := ((bcell hb31).1 _ _ (by omega)).trans mB30
  clear mA30 mB30
  go_wp2_with fail
  refine (markInt64S_own _ _ _ (teF J xs0 xs1 xs2 xs3 xs4 a5 a6).1 1 _ _ (by omega) (by omega) (by omega) rfl (((((((((((((((((ho14.later hb15).later hb16).later hb17).later hb18).later hb19).later hb20).later hb21).later hb22).later hb23).later hb24).later hb25).kept hg26 (apart_rows ho14 ho8 (by omega))).kept hg27 (apart_rows ho14 ho10 (by omega))).kept hg28 (apart_rows ho14 ho11 (by omega))).kept hg29 (apart_rows ho14 ho12 (by omega))).kept hg30 (apart_rows ho14 ho13 (by omega))).later hb31)).mono ?_
  rintro e w32 ⟨rfl, hp32, hg32⟩
  have sz32 : w31.heap.size ≤ w32.heap.size := hg32.size
  have be32 : Below w.heap.size w w32 := be31.grown hg32 be31.size (fun g h => by have := (World.ownsRow.lt ho14 g h).1; omega)
  have mA32 := hg32.cell mA31 (fun e => by have := (World.ownsRow.lt ho14 _ e.symm).1; simp at this; omega)
  have mB32 := hg32.cell mB31 (fun e => by have := (World.ownsRow.lt ho14 _ e.symm).1; simp at this; omega)
  clear mA31 mB31
  go_wp2_with fail
  refine (sB (heldInt64S_any _ _ (teF J xs0 xs1 xs2 xs3 xs4 a5 a6).1.length 1 _ _ (by omega) (by omega) (by omega) hp32.ints)).mono ?_
  rintro e w33 ⟨rfl, hb33⟩
  have sz33 : w32.heap.size ≤ w33.heap.size := hb33.size
  have be33 := be32.trans (hb33.mono be32.size)
  have mA33 := ((bcell hb33).1 _ _ (by omega)).trans mA32
  have mB33 := ((bcell hb33).1 _ _ (by omega)).trans mB32
  clear mA32 mB32
  go_wp2_with fail
  refine (toMine_any J A0 c0 xs0 w.heap.size _ (by omega) (HI0.out.below be33) be33.size).mono ?_
  rintro e w34 ⟨v34, rfl, ho34, hb34⟩
  have sz34 : w33.heap.size ≤ w34.heap.size := hb34.size
  have be34 := be33.trans (hb34.mono be33.size)
  have mA34 := ((bcell hb34).1 _ _ (by omega)).trans mA33
  have mB34 := ((bcell hb34).1 _ _ (by omega)).trans mB33
  clear mA33 mB33
  obtain ⟨A_34, c_34, rfl, -, -⟩ := ho34.slice encA_len
  go_wp2_with fail
  refine (toInt64S_any A1 c1 xs1 w.heap.size _ (by omega) (HI1.out.below be34) be34.size).mono ?_
  rintro e w35 ⟨rfl, ho35, hb35⟩
  have sz35 : w34.heap.size ≤ w35.heap.size := hb35.size
  have be35 := be34.trans (hb35.mono be34.size)
  have mA35 := ((bcell hb35).1 _ _ (by omega)).trans mA34
  have mB35 := ((bcell hb35).1 _ _ (by omega)).trans mB34
  clear mA34 mB34
  go_wp2_with fail
  refine (toInt64S_any A2 c2 xs2 w.heap.size _ (by omega) (HI2.out.below be35) be35.size).mono ?_
  rintro e w36 ⟨rfl, ho36, hb36⟩
  have sz36 : w35.heap.size ≤ w36.heap.size := hb36.size
  have be36 := be35.trans (hb36.mono be35.size)
  have mA36 := ((bcell hb36).1 _ _ (by omega)).trans mA35
  have mB36 := ((bcell hb36).1 _ _ (by omega)).trans mB35
  clear mA35 mB35
  go_wp2_with fail
  refine (toInt64S_any A3 c3 xs3 w.heap.size _ (by omega) (HI3.out.below be36) be36.size).mono ?_
  rintro e w37 ⟨rfl, ho37, hb37⟩
  have sz37 : w36.heap.size ≤ w37.heap.size := hb37.size
  have be37 := be36.trans (hb37.mono be36.size)
  have mA37 := ((bcell hb37).1 _ _ (by omega)).trans mA36
  have mB37 := ((bcell hb37).1 _ _ (by omega)).trans mB36
  clear mA36 mB36
  go_wp2_with fail
  refine (toInt64S_any A4 c4 xs4 w.heap.size _ (by omega) (HI4.out.below be37) be37.size).mono ?_
  rintro e w38 ⟨rfl, ho38, hb38⟩
  have sz38 : w37.heap.size ≤ w38.heap.size := hb38.size
  have be38 := be37.trans (hb38.mono be37.size)
  have mA38 := ((bcell hb38).1 _ _ (by omega)).trans mA37
  have mB38 := ((bcell hb38).1 _ _ (by omega)).trans mB37
  clear mA37 mB37
  go_wp2_with fail
  refine (TemperaturesAt_i J _ _ xs0 _ _ xs1 _ _ xs2 _ _ xs3 _ _ xs4 a5 a6 _ (by omega) HF0.out (((((ho34.later hb35).later hb36).later hb37).later hb38).rows encA_len) hn1 (((ho35.later hb36).later hb37).later hb38).ints HT1.out hn2 ((ho36.later hb37).later hb38).ints HT2.out hn3 (ho37.later hb38).ints HT3.out hn4 ho38.ints HT4.out b5 b6).mono ?_
  rintro e w39 ⟨v39, rfl, ho39, hb39⟩
  have sz39 : w38.heap.size ≤ w39.heap.size := hb39.size
  have be39 := be38.trans (hb39.mono be38.size)
  have mA39 := ((bcell hb39).1 _ _ (by omega)).trans mA38
  have mB39 := ((bcell hb39).1 _ _ (by omega)).trans mB38
  clear mA38 mB38
  obtain ⟨A_39, c_39, rfl, -, -⟩ := ho39.slice
  go_wp2_with fail
  refine (dB (eqInt64S_yes _ _ _ _ (teF J xs0 xs1 xs2 xs3 xs4 a5 a6).1 _ _ _ (by omega) ho39.ints ((((((((((((((((((((((((((((((((ho7.later hb8).later hb9).later hb10).later hb11).later hb12).later hb13).later hb14).later hb15).later hb16).later hb17).later hb18).later hb19).later hb20).later hb21).later hb22).later hb23).later hb24).later hb25).kept hg26 (apart_rows ho7 ho8 (by omega))).kept hg27 (apart_rows ho7 ho10 (by omega))).kept hg28 (apart_rows ho7 ho11 (by omega))).kept hg29 (apart_rows ho7 ho12 (by omega))).kept hg30 (apart_rows ho7 ho13 (by omega))).later hb31).kept hg32 (apart_rows ho7 ho14 (by omega))).later hb33).later hb34).later hb35).later hb36).later hb37).later hb38).later hb39).ints)).mono ?_
  rintro e w40 ⟨rfl, hb40⟩
  have sz40 : w39.heap.size ≤ w40.heap.size := hb40.size
  have be40 := be39.trans (hb40.mono be39.size)
  have mA40 := ((bcell hb40).1 _ _ (by omega)).trans mA39
  have mB40 := ((bcell hb40).1 _ _ (by omega)).trans mB39
  clear mA39 mB39
  go_wp2_with fail
  refine (sB (heldInt64S_any _ _ (teF J xs0 xs1 xs2 xs3 xs4 a5 a6).1.length 1 _ _ (by omega) (by omega) (by omega) ((((((((hp32.later hb33).later hb34).later hb35).later hb36).later hb37).later hb38).later hb39).later hb40).ints)).mono ?_
  rintro e w41 ⟨rfl, hb41⟩
  have sz41 : w40.heap.size ≤ w41.heap.size := hb41.size
  have be41 := be40.trans (hb41.mono be40.size)
  have mA41 := ((bcell hb41).1 _ _ (by omega)).trans mA40
  have mB41 := ((bcell hb41).1 _ _ (by omega)).trans mB40
  clear mA40 mB40
  go_wp2_with fail
  go_ret
  exact ⟨rfl, be41⟩
end Go.Proofs.Ytlgagnbnjfneaaa
