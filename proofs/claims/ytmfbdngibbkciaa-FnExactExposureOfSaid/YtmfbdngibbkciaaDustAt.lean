/- The dust in an airway at a minute: the program's and the reference's. Conditions: a valid list. -/
import Derived.Test.YtmfbdngibbkciaaDusts
import Derived.IntWalk
namespace Go.Proofs.Ytmfbdngibbkciaa
open Go.RowKit
open Pl
/-- What one task adds; what the first k tasks add. -/
def dTerm (d : Dg) (a t : Int) : Int := if d.1 = a ∧ d.2.1 ≤ t ∧ t < d.2.2.1 then d.2.2.2 else 0
theorem dTerm_eq (xa xf xu xd a t : Int) : dTerm (xa, xf, xu, xd) a t = if xa = a ∧ xf ≤ t ∧ t < xu then xd else 0 := rfl
def dustN (xs : List Dg) (a t : Int) : Nat → Int | 0 => 0 | k + 1 => dustN xs a t k + dTerm (xs.getD k dNone) a t
def dustA (xs : List Dg) (a t : Int) : Int := dustN xs a t xs.length
theorem dOk_bd {a f u d : Int} (h : dOk (a, f, u, d) = true) : (0 ≤ a ∧ a ≤ 23) ∧ (0 ≤ f ∧ f < u) ∧ u ≤ 1440 ∧ (0 ≤ d ∧ d ≤ 1000000) := by
  unfold dOk dustingB at h
  simp only [Bool.and_eq_true] at h
  obtain ⟨h1, h2, h3, h4⟩ := h
  have a1 := inB_iff.1 h1; have a2 := inB_iff.1 h2; have a3 := inB_iff.1 h3; have a4 := inB_iff.1 h4
  omega
theorem dTerm_bd {x : Dg} (h : dOk x = true) (a t : Int) : 0 ≤ dTerm x a t ∧ dTerm x a t ≤ 1000000 := by
  obtain ⟨xa, xf, xu, xd⟩ := x
  obtain ⟨_, _, _, h1, h2⟩ := dOk_bd h
  unfold dTerm
  split <;> simp <;> omega
theorem dustN_bd {xs : List Dg} (h : ∀ k, k < xs.length → dOk (xs.getD k dNone) = true) (a t : Int) : ∀ k : Nat, k ≤ xs.length → 0 ≤ dustN xs a t k ∧ dustN xs a t k ≤ 1000000 * k
  | 0, _ => by simp [dustN]
  | k + 1, hk => by
    obtain ⟨h1, h2⟩ := dustN_bd h a t k (by omega)
    obtain ⟨h3, h4⟩ := dTerm_bd (h k (by omega)) a t
    unfold dustN
    omega
theorem dsB_bd {xs : List Dg} (h : dsB xs = true) : (xs.length : Int) ≤ 12 ∧ ∀ k, k < xs.length → dOk (xs.getD k dNone) = true := by
  unfold dsB at h
  rw [Bool.and_eq_true, decide_eq_true_iff, allUp_iff] at h
  exact h
theorem dustA_bd {xs : List Dg} (h : dsB xs = true) (a t : Int) : 0 ≤ dustA xs a t ∧ dustA xs a t ≤ 12000000 := by
  obtain ⟨h1, h2⟩ := dsB_bd h
  obtain ⟨h3, h4⟩ := dustN_bd h2 a t xs.length (Nat.le_refl _)
  unfold dustA
  omega
set_option maxRecDepth 100000 in
set_option maxHeartbeats 1600000 in
theorem dustAt_any (A : Option Addr) (c : Nat) (xs : List Dg) (a t : Int) (B : Nat) (w : World) (hI : Recs encD 4 B w A xs) (hB : B ≤ w.heap.size) (hv : dsB xs = true) :
    Calls Try.prog 69 #[.slice A xs.length c, .int .i64 a, .int .i64 t] w fun e w' => e = .returned (.int .i64 (dustA xs a t)) ∧ Below w.heap.size w w' := by
  obtain ⟨v1, v2⟩ := dsB_bd hv
  have HV := Lib.hid v2
  have HB := Lib.hid (dustN_bd v2 a t)
  have J := Lib.hid (hI.more hB)
  have HA : Hid (dustA xs a t = dustN xs a t xs.length) := Lib.hid rfl
  generalize dustA xs a t = R at *
  clear v2 hv hI
  go_enter Try.func69, Try.ntmps69
  go_wp2
  go_loopw [7, 12] (fun s i wr => ∃ k : Nat, k ≤ xs.length ∧ i = .int .i64 k ∧ s = .int .i64 (dustN xs a t k) ∧ Below w.heap.size w wr) (fun _ i _ => xs.length - (intOf i).toNat)
  case atStart => exact ⟨0, Nat.zero_le _, rfl, rfl, Below.refl _ _⟩
  case round =>
    obtain ⟨k, hk, rfl, rfl, hb⟩ := hrel
    obtain ⟨b1, b2⟩ := HB.out k hk
    by_cases hlt : k < xs.length
    · obtain ⟨⟨xa, xf, xu, xd⟩, hx⟩ : ∃ x, xs.getD k dNone = x := ⟨_, rfl⟩
      obtain ⟨b, o, rfl, hab, c0, c1, c2, c3⟩ := (J.out.below hb).cellsD hlt hx
      have hok := HV.out k hlt
      rw [hx] at hok
      obtain ⟨_, ⟨f1, f2⟩, u1, ⟨d1, d2⟩⟩ := dOk_bd hok
      have hs : dustN xs a t (k + 1) = dustN xs a t k + dTerm (xa, xf, xu, xd) a t := by rw [dustN, hx]
      have hsz := hb.size
      generalize dustN xs a t k = s at *
      by_cases ha : xa = a
      · have ha' : (xa == a) = true := by simp [ha]
        cases hin : inB t xf (xu - 1)
        · have hs2 : dustN xs a t (k + 1) = s := by
            rw [hs, dTerm_eq]; rw [if_neg (fun h => by have := inB_no.1 hin; omega)]; omega
          have HS := Lib.hid hs2
          have HW := Lib.hid (fun W => eqb (within_any t xf (xu - 1) W) hin)
          clear ha hin hs hs2 hx hok
          go_wp2_with (go_at_call 51; refine (HW.out _).mono ?_; rintro e w' ⟨rfl, rfl⟩)
          go_roundw
          case rel => exact ⟨k + 1, by omega, by go_num, by rw [HS.out], by go_grown⟩
          case measure => simp [intOf]; omega
        · have hs2 : dustN xs a t (k + 1) = s + xd := by
            have := inB_iff.1 hin
            rw [hs, dTerm_eq]; rw [if_pos ⟨ha, this.1, by omega⟩]
          have HS := Lib.hid hs2
          have HW := Lib.hid (fun W => eqb (within_any t xf (xu - 1) W) hin)
          clear ha hin hs hs2 hx hok
          go_wp2_with (go_at_call 51; refine (HW.out _).mono ?_; rintro e w' ⟨rfl, rfl⟩)
          go_roundw
          case rel => exact ⟨k + 1, by omega, by go_num, by rw [HS.out], by go_grown⟩
          case measure => simp [intOf]; omega
      · have ha' : (xa == a) = false := by simp [ha]
        have hs2 : dustN xs a t (k + 1) = s := by
          rw [hs, dTerm_eq]; rw [if_neg (fun h => ha h.1)]; omega
        have HS := Lib.hid hs2
        clear ha hs hs2 hx hok
        go_wp2
        go_roundw
        case rel => exact ⟨k + 1, by omega, by go_num, by rw [HS.out], by go_grown⟩
        case measure => simp [intOf]; omega
    · obtain rfl : k = xs.length := by omega
      go_wp2
      go_ret
      exact ⟨ret_int (by rw [HA.out]), hb⟩
set_option maxRecDepth 100000 in
set_option maxHeartbeats 1600000 in
theorem l14At_any (A : Option Addr) (c : Nat) (xs : List Dg) (a t : Int) (B : Nat) (w : World) (hI : Recs encD 4 B w A xs) (hv : dsB xs = true) :
    Calls Try.prog 68 #[.slice A xs.length c, .int .i64 a, .int .i64 t] w fun e w' => e = .returned (.int .i64 (dustA xs a t)) ∧ w = w' := by
  obtain ⟨v1, v2⟩ := dsB_bd hv
  have HV := Lib.hid v2
  have HB := Lib.hid (dustN_bd v2 a t)
  have J := Lib.hid hI
  have HA : Hid (dustA xs a t = dustN xs a t xs.length) := Lib.hid rfl
  generalize dustA xs a t = R at *
  clear v2 hv hI
  go_enter Try.func68, Try.ntmps68
  go_wp2
  go_loop [7, 8] (fun s i => ∃ k : Nat, k ≤ xs.length ∧ i = .int .i64 k ∧ s = .int .i64 (dustN xs a t k)) (fun _ i => xs.length - (intOf i).toNat)
  case atStart => exact ⟨0, Nat.zero_le _, rfl, rfl⟩
  case round =>
    obtain ⟨k, hk, rfl, rfl⟩ := hrel
    obtain ⟨b1, b2⟩ := HB.out k hk
    by_cases hlt : k < xs.length
    · obtain ⟨⟨xa, xf, xu, xd⟩, hx⟩ : ∃ x, xs.getD k dNone = x := ⟨_, rfl⟩
      obtain ⟨b, o, rfl, hab, c0, c1, c2, c3⟩ := J.out.cellsD hlt hx
      have hok := HV.out k hlt
      rw [hx] at hok
      obtain ⟨_, ⟨f1, f2⟩, u1, ⟨d1, d2⟩⟩ := dOk_bd hok
      have hs : dustN xs a t (k + 1) = dustN xs a t k + dTerm (xa, xf, xu, xd) a t := by rw [dustN, hx]
      generalize dustN xs a t k = s at *
      by_cases ha : xa = a
      · have ha' : (xa == a) = true := by simp [ha]
        by_cases hf : xf ≤ t
        · by_cases hu : t < xu
          · have hs2 : dustN xs a t (k + 1) = s + xd := by
              rw [hs, dTerm_eq]; rw [if_pos ⟨ha, hf, hu⟩]
            have HS := Lib.hid hs2
            clear ha hs hs2 hx hok
            go_wp2
            go_round
            case rel => exact ⟨k + 1, by omega, by go_num, by rw [HS.out]⟩
            case measure => simp [intOf]; omega
          · have hs2 : dustN xs a t (k + 1) = s := by
              rw [hs, dTerm_eq]; rw [if_neg (fun h => hu h.2.2)]; omega
            have HS := Lib.hid hs2
            clear ha hs hs2 hx hok
            go_wp2
            go_round
            case rel => exact ⟨k + 1, by omega, by go_num, by rw [HS.out]⟩
            case measure => simp [intOf]; omega
        · have hs2 : dustN xs a t (k + 1) = s := by
            rw [hs, dTerm_eq]; rw [if_neg (fun h => hf h.2.1)]; omega
          have HS := Lib.hid hs2
          clear ha hs hs2 hx hok
          go_wp2
          go_round
          case rel => exact ⟨k + 1, by omega, by go_num, by rw [HS.out]⟩
          case measure => simp [intOf]; omega
      · have ha' : (xa == a) = false := by simp [ha]
        have hs2 : dustN xs a t (k + 1) = s := by
          rw [hs, dTerm_eq]; rw [if_neg (fun h => ha h.1)]; omega
        have HS := Lib.hid hs2
        clear ha hs hs2 hx hok
        go_wp2
        go_round
        case rel => exact ⟨k + 1, by omega, by go_num, by rw [HS.out]⟩
        case measure => simp [intOf]; omega
    · obtain rfl : k = xs.length := by omega
      go_wp2
      go_ret
      exact ⟨ret_int (by rw [HA.out]), rfl⟩
end Go.Proofs.Ytmfbdngibbkciaa
