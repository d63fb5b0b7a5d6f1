/- Temperatures at junctions: the two ways of an airway, how long air stays, what is asked of the arguments, by the program and by the reference. Conditions: the facts on memory and on lengths that each theorem names. -/
import Derived.Test.YtlgagnbnjfneaaaTeP
import Derived.Test.YtlgagnbnjfneaaaUp
import Derived.Test.YtlgagnbnjfneaaaDrop
import Derived.Test.YtlgagnbnjfneaaaPotF
import Derived.BigQuiet
import Derived.IntWalk
namespace Go.Proofs.Ytlgagnbnjfneaaa
open Go.RowKit
open Pl
theorem ways_any (s : ByteArray) (f t l c r k v : Int) (w : World) :
    Calls Try.prog 150 #[.agg #[.string s, .int .i64 f, .int .i64 t, .int .i64 l, .int .i64 c, .int .i64 r, .int .i64 k], .int .i64 v] w fun e w' => e = .returned (.tuple #[.int .i64 (if v < 0 then t else f), .int .i64 (if v < 0 then f else t)]) ∧ Below w.heap.size w w' := by
  by_cases h : v < 0
  · rw [if_pos h, if_pos h]
    go_enter Try.func150, Try.ntmps150
    go_wp2
    go_region
    go_wp2
    go_ret2
    exact ⟨rfl, by go_grown⟩
  · rw [if_neg h, if_neg h]
    go_enter Try.func150, Try.ntmps150
    go_wp2
    go_region
    go_wp2
    go_ret2
    exact ⟨rfl, by go_grown⟩
theorem l16Into_any (b o : Nat) (f t v : Int) (w : World) (c1 : w.cell? ⟨b, o + 1, none⟩ = some (.int .i64 f)) (c2 : w.cell? ⟨b, o + 2, none⟩ = some (.int .i64 t)) :
    Calls Try.prog 112 #[.pointer (some ⟨b, o, none⟩), .int .i64 v] w fun e w' => e = .returned (.tuple #[.int .i64 (if 0 < v then f else t), .int .i64 (if 0 < v then t else f)]) ∧ ∃ n, w.drewN n = w' := by
  by_cases h : 0 < v
  · rw [if_pos h, if_pos h]
    go_enter Try.func112, Try.ntmps112
    go_wp2
    go_quiet (fail)
    go_wp2
    go_ret2
    exact ⟨rfl, _, rfl⟩
  · rw [if_neg h, if_neg h]
    go_enter Try.func112, Try.ntmps112
    go_wp2
    go_quiet (fail)
    go_wp2
    go_ret2
    exact ⟨rfl, _, rfl⟩
theorem l03Abs_n (n : Int) (w : World) (h1 : -9223372036854775807 ≤ n) (h2 : n ≤ 9223372036854775807) :
    Calls Try.prog 89 #[.int .i64 n] w fun e w' => e = .returned (.int .i64 n.natAbs) ∧ w = w' := by
  have e : ((n.natAbs : Nat) : Int) = mx n (-n) := by unfold mx; split <;> omega
  rw [e]
  clear e
  go_enter Try.func89, Try.ntmps89
  go_wp2_with (go_at_call 141; refine (l00Max_any _ _ _).mono ?_; rintro e w' ⟨rfl, rfl⟩)
  go_ret
  exact ⟨rfl, rfl⟩
theorem l03Time_any (b o : Nat) (l c v : Int) (w : World) (h1 : 0 ≤ l * c) (h2 : l * c ≤ 50000000) (h3 : -100000 ≤ v) (h4 : v ≤ 100000) (h0 : 1 ≤ ((v.natAbs : Nat) : Int)) (c3 : w.cell? ⟨b, o + 3, none⟩ = some (.int .i64 l)) (c4 : w.cell? ⟨b, o + 4, none⟩ = some (.int .i64 c)) :
    Calls Try.prog 115 #[.pointer (some ⟨b, o, none⟩), .int .i64 v] w fun e w' => e = .returned (.int .i64 (divU (l * c) v.natAbs)) ∧ ∃ n, w.drewN n = w' := by
  unfold divU
  have HA := Lib.hid (fun W => l03Abs_n v W (by omega) (by omega))
  have hq : ((v.natAbs : Nat) : Int) ≤ 100000 := by omega
  generalize ((v.natAbs : Nat) : Int) = q at *
  have q0 : 0 ≤ l * c + q - 1 := by omega
  have w1 : IntKind.i64.wrap (l * c) = l * c := IntWalk.i64_in _ (by omega)
  have w2 : IntKind.i64.wrap (l * c + q) = l * c + q := IntWalk.i64_in _ (by omega)
  have w3 : IntKind.i64.wrap (l * c + q - 1) = l * c + q - 1 := IntWalk.i64_in _ (by omega)
  have hqn : ¬ q = 0 := by omega
  go_enter Try.func115, Try.ntmps115
  go_wp2_with (go_at_call 89; refine (HA.out _).mono ?_; rintro e w' ⟨rfl, rfl⟩)
  go_quiet (fail)
  go_wp2
  go_ret
  exact ⟨rfl, _, rfl⟩
def surB (J : Int) (su : List Int) : Bool := incB su && allIn su 0 (J - 1)
def lstB (n : Nat) (fs rs ps : List Int) : Bool := (decide ((fs.length : Int) = n) && allIn fs (-100000) 100000) && ((decide ((rs.length : Int) = n) && allIn rs 0 900) && (decide ((ps.length : Int) = n) && allIn ps (-10000000) 10000000))
def oneB (J : Int) (su : List Int) (t q : Int) : Bool := surB J su && (inB t (-100) 600 && inB q 0 1000)
noncomputable def tcode (J : Int) (xs : List Aw) (fs rs ps su : List Int) (t q : Int) : Int := if mineB J xs then (if lstB xs.length fs rs ps then (if oneB J su t q then 0 else 2) else 2) else 1
theorem hasJunctions_any (J : Int) (A : Option Addr) (cp : Nat) (xs : List Aw) (A' : Option Addr) (c' : Nat) (ys : List Int) (B : Nat) (w : World) (hj : 1 ≤ J ∧ J ≤ 16) (hn : (ys.length : Int) ≤ 1099511627776) (hI : Ints B w A' ys) (hB : B ≤ w.heap.size) (hT : Fits ys) :
    Calls Try.prog 119 #[.agg #[.int .i64 J, .slice A xs.length cp], .slice A' ys.length c'] w fun e w' => e = .returned (.bool (surB J ys)) ∧ Below w.heap.size w w' := by
  obtain ⟨j1, j2⟩ := hj
  have HS := Lib.hid (fun (W : World) (hb : Below w.heap.size w W) => allWithin_any A' c' ys 0 (J - 1) w.heap.size W hn ((hI.more hB).below hb) hb.size hT)
  have HI : Hid (∀ (W : World), Below w.heap.size w W → Calls Try.prog 149 #[.slice A' ys.length c'] W fun e w' => e = .returned (.bool (incB ys)) ∧ Below W.heap.size W w') := Lib.hid (fun W hb => (increasing_any A' c' ys w.heap.size W hn ((hI.more hB).below hb)).mono (by rintro e _ ⟨rfl, n, rfl⟩; exact ⟨rfl, below_drewN (Below.refl _ _) n⟩))
  clear hI hT
  unfold surB
  generalize allIn ys 0 (J - 1) = b at *
  cases hi : incB ys
  · rw [hi] at HI
    clear hi
    go_enter Try.func119, Try.ntmps119
    go_wp2_with fail
    refine (HI.out _ (by go_grown)).mono ?_
    rintro e w1 ⟨rfl, hb1⟩
    obtain ⟨hc1, hf1⟩ := bcell hb1
    have q1_0 : w.heap.size < w1.heap.size := by have := hb1.size; simp at this; omega
    have be1 : Below w.heap.size w w1 := ((Below.refl w.heap.size w).alloc (by simp) _).trans (hb1.mono (by simp))
    have hbe := be1
    go_wp2_with fail
    go_ret
    exact ⟨rfl, hbe⟩
  · rw [hi] at HI
    clear hi
    go_enter Try.func119, Try.ntmps119
    go_wp2_with fail
    refine (HI.out _ (by go_grown)).mono ?_
    rintro e w1 ⟨rfl, hb1⟩
    obtain ⟨hc1, hf1⟩ := bcell hb1
    have q1_0 : w.heap.size < w1.heap.size := by have := hb1.size; simp at this; omega
    have be1 : Below w.heap.size w w1 := ((Below.refl w.heap.size w).alloc (by simp) _).trans (hb1.mono (by simp))
    go_wp2_with fail
    refine (HS.out _ be1).mono ?_
    rintro e w2 ⟨rfl, hb2⟩
    obtain ⟨hc2, hf2⟩ := bcell hb2
    have q2_0 : w.heap.size < w2.heap.size := by have := hb2.size; omega
    have be2 : Below w.heap.size w w2 := be1.trans (hb2.mono (by omega))
    have hbe := be2
    go_wp2_with fail
    go_ret
    exact ⟨ret_bool (by simp), hbe⟩
set_option maxRecDepth 100000 in
set_option maxHeartbeats 1600000 in
theorem heatCode_any (J : Int) (A : Option Addr) (cp : Nat) (xs : List Aw) (A1 : Option Addr) (c1 : Nat) (fs : List Int) (A2 : Option Addr) (c2 : Nat) (rs : List Int) (A3 : Option Addr) (c3 : Nat) (ps : List Int) (A4 : Option Addr) (c4 : Nat) (su : List Int) (t q : Int) (w : World)
    (hx : (xs.length : Int) ≤ 1048576) (hF : FitsA xs) (hI : Recs encA 7 w.heap.size w A xs) (n1 : (fs.length : Int) ≤ 1048576) (hI1 : Ints w.heap.size w A1 fs) (hT1 : Fits fs) (n2 : (rs.length : Int) ≤ 1048576) (hI2 : Ints w.heap.size w A2 rs) (hT2 : Fits rs)
    (n3 : (ps.length : Int) ≤ 1048576) (hI3 : Ints w.heap.size w A3 ps) (hT3 : Fits ps) (n4 : (su.length : Int) ≤ 1048576) (hI4 : Ints w.heap.size w A4 su) (hT4 : Fits su) :
    Calls Try.prog 69 #[.agg #[.int .i64 J, .slice A xs.length cp], .slice A1 fs.length c1, .slice A2 rs.length c2, .slice A3 ps.length c3, .slice A4 su.length c4, .int .i64 t, .int .i64 q] w fun e w' => e = .returned (.int .i64 (tcode J xs fs rs ps su t q)) ∧ Below w.heap.size w w' := by
  obtain ⟨R, hR⟩ : ∃ R, R = tcode J xs fs rs ps su t q := ⟨_, rfl⟩
  rw [← hR]
  unfold tcode at hR
  have HV := Lib.hid (fun (W : World) (hb : Below w.heap.size w W) => ValidMine_i J A cp xs w.heap.size W (by omega) hF (hI.below hb) hb.size)
  have H1 := Lib.hid (fun (W : World) (hb : Below w.heap.size w W) => hasFlows_any J A cp xs A1 c1 fs w.heap.size W (by omega) (by omega) (hI1.below hb) hb.size hT1)
  have H2 := Lib.hid (fun (W : World) (hb : Below w.heap.size w W) => hasList_any J A cp xs A2 c2 rs 0 900 w.heap.size W (by omega) (by omega) (hI2.below hb) hb.size hT2)
  have H3 := Lib.hid (fun (W : World) (hb : Below w.heap.size w W) => hasList_any J A cp xs A3 c3 ps (-10000000) 10000000 w.heap.size W (by omega) (by omega) (hI3.below hb) hb.size hT3)
  have H4 := Lib.hid (fun (W : World) (hb : Below w.heap.size w W) (hj : 1 ≤ J ∧ J ≤ 16) => hasJunctions_any J A cp xs A4 c4 su w.heap.size W hj (by omega) (hI4.below hb) hb.size hT4)
  have H5 := Lib.hid (fun (W : World) => warmthOk_any t W)
  have H6 := Lib.hid (fun (W : World) => within_any q 0 1000 W)
  clear hI hI1 hI2 hI3 hI4 hT1 hT2 hT3 hT4 hF
  cases hm : mineB J xs
  · rw [hm] at HV hR
    have HR := Lib.hid hR
    clear hm hR
    go_enter Try.func69, Try.ntmps69
    go_wp2_with fail
    refine (HV.out _ (by go_grown)).mono ?_
    rintro e w1 ⟨rfl, hb1⟩
    obtain ⟨hc1, hf1⟩ := bcell hb1
    have q1_0 : w.heap.size < w1.heap.size := by have := hb1.size; simp at this; omega
    have be1 : Below w.heap.size w w1 := ((Below.refl w.heap.size w).alloc (by simp) _).trans (hb1.mono (by simp))
    have hbe := be1
    go_wp2_with fail
    go_ret
    exact ⟨ret_int (by rw [HR.out]; rfl), hbe⟩
  rw [hm] at HV hR
  have hj := (mineB_bd hm).1
  clear hm
  unfold lstB at hR
  cases h1 : (decide ((fs.length : Int) = xs.length) && allIn fs (-100000) 100000)
  · rw [h1] at H1 hR
    have HR := Lib.hid hR
    clear h1 hR
    go_enter Try.func69, Try.ntmps69
    go_wp2_with fail
    refine (HV.out _ (by go_grown)).mono ?_
    rintro e w1 ⟨rfl, hb1⟩
    obtain ⟨hc1, hf1⟩ := bcell hb1
    have q1_0 : w.heap.size < w1.heap.size := by have := hb1.size; simp at this; omega
    have be1 : Below w.heap.size w w1 := ((Below.refl w.heap.size w).alloc (by simp) _).trans (hb1.mono (by simp))
    go_wp2_with fail
    refine (H1.out _ be1).mono ?_
    rintro e w2 ⟨rfl, hb2⟩
    obtain ⟨hc2, hf2⟩ := bcell hb2
    have q2_0 : w.heap.size < w2.heap.size := by have := hb2.size; omega
    have be2 : Below w.heap.size w w2 := be1.trans (hb2.mono (by omega))
    have hbe := be2
    go_wp2_with fail
    go_ret
    exact ⟨ret_int (by rw [HR.out]; rfl), hbe⟩
  rw [h1] at H1 hR
  clear h1
  cases h2 : (decide ((rs.length : Int) = xs.length) && allIn rs 0 900)
  · rw [h2] at H2 hR
    have HR := Lib.hid hR
    clear h2 hR
    go_enter Try.func69, Try.ntmps69
    go_wp2_with fail
    refine (HV.out _ (by go_grown)).mono ?_
    rintro e w1 ⟨rfl, hb1⟩
    obtain ⟨hc1, hf1⟩ := bcell hb1
    have q1_0 : w.heap.size < w1.heap.size := by have := hb1.size; simp at this; omega
    have be1 : Below w.heap.size w w1 := ((Below.refl w.heap.size w).alloc (by simp) _).trans (hb1.mono (by simp))
    go_wp2_with fail
    refine (H1.out _ be1).mono ?_
    rintro e w2 ⟨rfl, hb2⟩
    obtain ⟨hc2, hf2⟩ := bcell hb2
    have q2_0 : w.heap.size < w2.heap.size := by have := hb2.size; omega
    have be2 : Below w.heap.size w w2 := be1.trans (hb2.mono (by omega))
    go_wp2_with fail
    refine (H2.out _ be2).mono ?_
    rintro e w3 ⟨rfl, hb3⟩
    obtain ⟨hc3, hf3⟩ := bcell hb3
    have q3_0 : w.heap.size < w3.heap.size := by have := hb3.size; omega
    have be3 : Below w.heap.size w w3 := be2.trans (hb3.mono (by omega))
    have hbe := be3
    go_wp2_with fail
    go_ret
    exact ⟨ret_int (by rw [HR.out]; rfl), hbe⟩
  rw [h2] at H2 hR
  clear h2
  cases h3 : (decide ((ps.length : Int) = xs.length) && allIn ps (-10000000) 10000000)
  · rw [h3] at H3 hR
    have HR := Lib.hid hR
    clear h3 hR
    go_enter Try.func69, Try.ntmps69
    go_wp2_with fail
    refine (HV.out _ (by go_grown)).mono ?_
    rintro e w1 ⟨rfl, hb1⟩
    obtain ⟨hc1, hf1⟩ := bcell hb1
    have q1_0 : w.heap.size < w1.heap.size := by have := hb1.size; simp at this; omega
    have be1 : Below w.heap.size w w1 := ((Below.refl w.heap.size w).alloc (by simp) _).trans (hb1.mono (by simp))
    go_wp2_with fail
    refine (H1.out _ be1).mono ?_
    rintro e w2 ⟨rfl, hb2⟩
    obtain ⟨hc2, hf2⟩ := bcell hb2
    have q2_0 : w.heap.size < w2.heap.size := by have := hb2.size; omega
    have be2 : Below w.heap.size w w2 := be1.trans (hb2.mono (by omega))
    go_wp2_with fail
    refine (H2.out _ be2).mono ?_
    rintro e w3 ⟨rfl, hb3⟩
    obtain ⟨hc3, hf3⟩ := bcell hb3
    have q3_0 : w.heap.size < w3.heap.size := by have := hb3.size; omega
    have be3 : Below w.heap.size w w3 := be2.trans (hb3.mono (by omega))
    go_wp2_with fail
    refine (H3.out _ be3).mono ?_
    rintro e w4 ⟨rfl, hb4⟩
    obtain ⟨hc4, hf4⟩ := bcell hb4
    have q4_0 : w.heap.size < w4.heap.size := by have := hb4.size; omega
    have be4 : Below w.heap.size w w4 := be3.trans (hb4.mono (by omega))
    have hbe := be4
    go_wp2_with fail
    go_ret
    exact ⟨ret_int (by rw [HR.out]; rfl), hbe⟩
  rw [h3] at H3 hR
  clear h3
  unfold oneB at hR
  cases h4 : surB J su
  · rw [h4] at H4 hR
    have HR := Lib.hid hR
    clear h4 hR
    go_enter Try.func69, Try.ntmps69
    go_wp2_with fail
    refine (HV.out _ (by go_grown)).mono ?_
    rintro e w1 ⟨rfl, hb1⟩
    obtain ⟨hc1, hf1⟩ := bcell hb1
    have q1_0 : w.heap.size < w1.heap.size := by have := hb1.size; simp at this; omega
    have be1 : Below w.heap.size w w1 := ((Below.refl w.heap.size w).alloc (by simp) _).trans (hb1.mono (by simp))
    go_wp2_with fail
    refine (H1.out _ be1).mono ?_
    rintro e w2 ⟨rfl, hb2⟩
    obtain ⟨hc2, hf2⟩ := bcell hb2
    have q2_0 : w.heap.size < w2.heap.size := by have := hb2.size; omega
    have be2 : Below w.heap.size w w2 := be1.trans (hb2.mono (by omega))
    go_wp2_with fail
    refine (H2.out _ be2).mono ?_
    rintro e w3 ⟨rfl, hb3⟩
    obtain ⟨hc3, hf3⟩ := bcell hb3
    have q3_0 : w.heap.size < w3.heap.size := by have := hb3.size; omega
    have be3 : Below w.heap.size w w3 := be2.trans (hb3.mono (by omega))
    go_wp2_with fail
    refine (H3.out _ be3).mono ?_
    rintro e w4 ⟨rfl, hb4⟩
    obtain ⟨hc4, hf4⟩ := bcell hb4
    have q4_0 : w.heap.size < w4.heap.size := by have := hb4.size; omega
    have be4 : Below w.heap.size w w4 := be3.trans (hb4.mono (by omega))
    go_wp2_with fail
    refine (H4.out _ be4 hj).mono ?_
    rintro e w5 ⟨rfl, hb5⟩
    obtain ⟨hc5, hf5⟩ := bcell hb5
    have q5_0 : w.heap.size < w5.heap.size := by have := hb5.size; omega
    have be5 : Below w.heap.size w w5 := be4.trans (hb5.mono (by omega))
    have hbe := be5
    go_wp2_with fail
    go_ret
    exact ⟨ret_int (by rw [HR.out]; rfl), hbe⟩
  rw [h4] at H4 hR
  clear h4
  cases h5 : inB t (-100) 600
  · rw [h5] at H5 hR
    have HR := Lib.hid hR
    clear h5 hR
    go_enter Try.func69, Try.ntmps69
    go_wp2_with (go_at_call 120; refine (H5.out _).mono ?_; rintro e w' ⟨rfl, rfl⟩)
    refine (HV.out _ (by go_grown)).mono ?_
    rintro e w1 ⟨rfl, hb1⟩
    obtain ⟨hc1, hf1⟩ := bcell hb1
    have q1_0 : w.heap.size < w1.heap.size := by have := hb1.size; simp at this; omega
    have be1 : Below w.heap.size w w1 := ((Below.refl w.heap.size w).alloc (by simp) _).trans (hb1.mono (by simp))
    go_wp2_with (go_at_call 120; refine (H5.out _).mono ?_; rintro e w' ⟨rfl, rfl⟩)
    refine (H1.out _ be1).mono ?_
    rintro e w2 ⟨rfl, hb2⟩
    obtain ⟨hc2, hf2⟩ := bcell hb2
    have q2_0 : w.heap.size < w2.heap.size := by have := hb2.size; omega
    have be2 : Below w.heap.size w w2 := be1.trans (hb2.mono (by omega))
    go_wp2_with (go_at_call 120; refine (H5.out _).mono ?_; rintro e w' ⟨rfl, rfl⟩)
    refine (H2.out _ be2).mono ?_
    rintro e w3 ⟨rfl, hb3⟩
    obtain ⟨hc3, hf3⟩ := bcell hb3
    have q3_0 : w.heap.size < w3.heap.size := by have := hb3.size; omega
    have be3 : Below w.heap.size w w3 := be2.trans (hb3.mono (by omega))
    go_wp2_with (go_at_call 120; refine (H5.out _).mono ?_; rintro e w' ⟨rfl, rfl⟩)
    refine (H3.out _ be3).mono ?_
    rintro e w4 ⟨rfl, hb4⟩
    obtain ⟨hc4, hf4⟩ := bcell hb4
    have q4_0 : w.heap.size < w4.heap.size := by have := hb4.size; omega
    have be4 : Below w.heap.size w w4 := be3.trans (hb4.mono (by omega))
    go_wp2_with (go_at_call 120; refine (H5.out _).mono ?_; rintro e w' ⟨rfl, rfl⟩)
    refine (H4.out _ be4 hj).mono ?_
    rintro e w5 ⟨rfl, hb5⟩
    obtain ⟨hc5, hf5⟩ := bcell hb5
    have q5_0 : w.heap.size < w5.heap.size := by have := hb5.size; omega
    have be5 : Below w.heap.size w w5 := be4.trans (hb5.mono (by omega))
    have hbe := be5
    go_wp2_with (go_at_call 120; refine (H5.out _).mono ?_; rintro e w' ⟨rfl, rfl⟩)
    go_ret
    exact ⟨ret_int (by rw [HR.out]; rfl), hbe⟩
  rw [h5] at H5 hR
  clear h5
  cases h6 : inB q 0 1000
  · rw [h6] at H6 hR
    have HR := Lib.hid hR
    clear h6 hR
    go_enter Try.func69, Try.ntmps69
    go_wp2_with (first | (go_at_call 120; refine (H5.out _).mono ?_; rintro e w' ⟨rfl, rfl⟩) | (go_at_call 54; refine (H6.out _).mono ?_; rintro e w' ⟨rfl, rfl⟩))
    refine (HV.out _ (by go_grown)).mono ?_
    rintro e w1 ⟨rfl, hb1⟩
    obtain ⟨hc1, hf1⟩ := bcell hb1
    have q1_0 : w.heap.size < w1.heap.size := by have := hb1.size; simp at this; omega
    have be1 : Below w.heap.size w w1 := ((Below.refl w.heap.size w).alloc (by simp) _).trans (hb1.mono (by simp))
    go_wp2_with (first | (go_at_call 120; refine (H5.out _).mono ?_; rintro e w' ⟨rfl, rfl⟩) | (go_at_call 54; refine (H6.out _).mono ?_; rintro e w' ⟨rfl, rfl⟩))
    refine (H1.out _ be1).mono ?_
    rintro e w2 ⟨rfl, hb2⟩
    obtain ⟨hc2, hf2⟩ := bcell hb2
    have q2_0 : w.heap.size < w2.heap.size := by have := hb2.size; omega
    have be2 : Below w.heap.size w w2 := be1.trans (hb2.mono (by omega))
    go_wp2_with (first | (go_at_call 120; refine (H5.out _).mono ?_; rintro e w' ⟨rfl, rfl⟩) | (go_at_call 54; refine (H6.out _).mono ?_; rintro e w' ⟨rfl, rfl⟩))
    refine (H2.out _ be2).mono ?_
    rintro e w3 ⟨rfl, hb3⟩
    obtain ⟨hc3, hf3⟩ := bcell hb3
    have q3_0 : w.heap.size < w3.heap.size := by have := hb3.size; omega
    have be3 : Below w.heap.size w w3 := be2.trans (hb3.mono (by omega))
    go_wp2_with (first | (go_at_call 120; refine (H5.out _).mono ?_; rintro e w' ⟨rfl, rfl⟩) | (go_at_call 54; refine (H6.out _).mono ?_; rintro e w' ⟨rfl, rfl⟩))
    refine (H3.out _ be3).mono ?_
    rintro e w4 ⟨rfl, hb4⟩
    obtain ⟨hc4, hf4⟩ := bcell hb4
    have q4_0 : w.heap.size < w4.heap.size := by have := hb4.size; omega
    have be4 : Below w.heap.size w w4 := be3.trans (hb4.mono (by omega))
    go_wp2_with (first | (go_at_call 120; refine (H5.out _).mono ?_; rintro e w' ⟨rfl, rfl⟩) | (go_at_call 54; refine (H6.out _).mono ?_; rintro e w' ⟨rfl, rfl⟩))
    refine (H4.out _ be4 hj).mono ?_
    rintro e w5 ⟨rfl, hb5⟩
    obtain ⟨hc5, hf5⟩ := bcell hb5
    have q5_0 : w.heap.size < w5.heap.size := by have := hb5.size; omega
    have be5 : Below w.heap.size w w5 := be4.trans (hb5.mono (by omega))
    have hbe := be5
    go_wp2_with (first | (go_at_call 120; refine (H5.out _).mono ?_; rintro e w' ⟨rfl, rfl⟩) | (go_at_call 54; refine (H6.out _).mono ?_; rintro e w' ⟨rfl, rfl⟩))
    go_ret
    exact ⟨ret_int (by rw [HR.out]; rfl), hbe⟩
  · rw [h6] at H6 hR
    have HR := Lib.hid hR
    clear h6 hR
    go_enter Try.func69, Try.ntmps69
    go_wp2_with (first | (go_at_call 120; refine (H5.out _).mono ?_; rintro e w' ⟨rfl, rfl⟩) | (go_at_call 54; refine (H6.out _).mono ?_; rintro e w' ⟨rfl, rfl⟩))
    refine (HV.out _ (by go_grown)).mono ?_
    rintro e w1 ⟨rfl, hb1⟩
    obtain ⟨hc1, hf1⟩ := bcell hb1
    have q1_0 : w.heap.size < w1.heap.size := by have := hb1.size; simp at this; omega
    have be1 : Below w.heap.size w w1 := ((Below.refl w.heap.size w).alloc (by simp) _).trans (hb1.mono (by simp))
    go_wp2_with (first | (go_at_call 120; refine (H5.out _).mono ?_; rintro e w' ⟨rfl, rfl⟩) | (go_at_call 54; refine (H6.out _).mono ?_; rintro e w' ⟨rfl, rfl⟩))
    refine (H1.out _ be1).mono ?_
    rintro e w2 ⟨rfl, hb2⟩
    obtain ⟨hc2, hf2⟩ := bcell hb2
    have q2_0 : w.heap.size < w2.heap.size := by have := hb2.size; omega
    have be2 : Below w.heap.size w w2 := be1.trans (hb2.mono (by omega))
    go_wp2_with (first | (go_at_call 120; refine (H5.out _).mono ?_; rintro e w' ⟨rfl, rfl⟩) | (go_at_call 54; refine (H6.out _).mono ?_; rintro e w' ⟨rfl, rfl⟩))
    refine (H2.out _ be2).mono ?_
    rintro e w3 ⟨rfl, hb3⟩
    obtain ⟨hc3, hf3⟩ := bcell hb3
    have q3_0 : w.heap.size < w3.heap.size := by have := hb3.size; omega
    have be3 : Below w.heap.size w w3 := be2.trans (hb3.mono (by omega))
    go_wp2_with (first | (go_at_call 120; refine (H5.out _).mono ?_; rintro e w' ⟨rfl, rfl⟩) | (go_at_call 54; refine (H6.out _).mono ?_; rintro e w' ⟨rfl, rfl⟩))
    refine (H3.out _ be3).mono ?_
    rintro e w4 ⟨rfl, hb4⟩
    obtain ⟨hc4, hf4⟩ := bcell hb4
    have q4_0 : w.heap.size < w4.heap.size := by have := hb4.size; omega
    have be4 : Below w.heap.size w w4 := be3.trans (hb4.mono (by omega))
    go_wp2_with (first | (go_at_call 120; refine (H5.out _).mono ?_; rintro e w' ⟨rfl, rfl⟩) | (go_at_call 54; refine (H6.out _).mono ?_; rintro e w' ⟨rfl, rfl⟩))
    refine (H4.out _ be4 hj).mono ?_
    rintro e w5 ⟨rfl, hb5⟩
    obtain ⟨hc5, hf5⟩ := bcell hb5
    have q5_0 : w.heap.size < w5.heap.size := by have := hb5.size; omega
    have be5 : Below w.heap.size w w5 := be4.trans (hb5.mono (by omega))
    have hbe := be5
    go_wp2_with (first | (go_at_call 120; refine (H5.out _).mono ?_; rintro e w' ⟨rfl, rfl⟩) | (go_at_call 54; refine (H6.out _).mono ?_; rintro e w' ⟨rfl, rfl⟩))
    go_ret
    exact ⟨ret_int (by rw [HR.out]; rfl), hbe⟩
end Go.Proofs.Ytlgagnbnjfneaaa
