/- Flows along a duct: their code, what is lost from joint to joint; the program's and the reference's. Conditions: the bounds that each theorem names. -/
import Derived.Test.YtmfbdngibbkciaaBase
import Derived.Test.YtmfbdngibbkciaaList
import Derived.Test.YtmfbdngibbkciaaRes
import Derived.Test.YtmfbdngibbkciaaHof
import Derived.IntWalk
import Derived.BigQuiet
import Derived.Deep.RegionHeldLaw
import Derived.Deep.AppendLies
import Derived.Deep.DrawnRows
namespace Go.Proofs.Ytmfbdngibbkciaa
open Go.RowKit
open Pl
attribute [local go_sem ↓] Go.wp_at_zero Go.wp_at_succ
theorem getD_at {xs : List Int} {k : Nat} (h : k < xs.length) : xs.getD k 0 = xs[k] := by simp [List.getD, h]
/-- A property of the numbers below n: all have it, or there is a first that hasn't. -/
theorem two_split (P : Nat → Bool) : ∀ n : Nat, (∀ k, k < n → P k = true) ∨ ∃ b, b < n ∧ P b = false ∧ ∀ k, k < b → P k = true
  | 0 => .inl (fun k h => by omega)
  | n + 1 => by
    rcases two_split P n with h | ⟨b, h1, h2, h3⟩
    · cases hp : P n
      · exact .inr ⟨n, by omega, hp, h⟩
      · exact .inl (fun k hk => by by_cases e : k = n; (subst e; exact hp); exact h k (by omega))
    · exact .inr ⟨b, by omega, h2, h3⟩
/-- The numbers of a list never rise. -/
def falls (xs : List Int) : Bool := (List.range (xs.length - 1)).all fun k => decide (xs.getD (k + 1) 0 ≤ xs.getD k 0)
theorem falls_split (xs : List Int) : (falls xs = true ∧ ∀ k, k < xs.length - 1 → xs.getD (k + 1) 0 ≤ xs.getD k 0) ∨ (falls xs = false ∧ ∃ b, b < xs.length - 1 ∧ xs.getD b 0 < xs.getD (b + 1) 0 ∧ ∀ k, k < b → xs.getD (k + 1) 0 ≤ xs.getD k 0) := by
  rcases two_split (fun k => decide (xs.getD (k + 1) 0 ≤ xs.getD k 0)) (xs.length - 1) with h | ⟨b, h1, h2, h3⟩
  · exact .inl ⟨by unfold falls; rw [List.all_eq_true]; intro k hk; exact h k (List.mem_range.1 hk), fun k hk => of_decide_eq_true (h k hk)⟩
  · refine .inr ⟨?_, b, h1, by have := of_decide_eq_false h2; omega, fun k hk => of_decide_eq_true (h3 k hk)⟩
    cases hf : falls xs
    · rfl
    · unfold falls at hf
      rw [List.all_eq_true] at hf
      rw [hf b (List.mem_range.2 h1)] at h2
      exact absurd h2 (by simp)
def flowsCode (xs : List Int) : Int := if allIn xs 0 100000 then (if xs.length ≤ 64 then (if falls xs then 0 else 7) else 5) else 2
theorem ductFlowsCode_any (A : Option Addr) (c : Nat) (xs : List Int) (B : Nat) (w : World) (hn : (xs.length : Int) ≤ 1048576) (hI : Ints B w A xs) (hB : B ≤ w.heap.size) (hT : Fits xs) :
    Calls Try.prog 79 #[.slice A xs.length c] w fun e w' => e = .returned (.int .i64 (flowsCode xs)) ∧ Below w.heap.size w w' := by
  have HW := allWithin_any A c xs 0 100000 B w (by omega) hI hB hT
  have J := Lib.hid (hI.more hB)
  clear hI hT
  unfold flowsCode
  cases h1 : allIn xs 0 100000
  · rw [h1] at HW
    have HW := Lib.hid HW
    go_enter Try.func79, Try.ntmps79
    go_wp2_with fail
    refine HW.out.mono ?_
    rintro e w1 ⟨rfl, hb1⟩
    go_wp2
    go_ret
    exact ⟨rfl, hb1⟩
  · rw [h1] at HW
    by_cases h2 : xs.length ≤ 64
    · rcases falls_split xs with ⟨h3, hg⟩ | ⟨h3, b, hbl, hbr, hg⟩
      · have e : (if true = true then (if xs.length ≤ 64 then (if falls xs = true then (0 : Int) else 7) else 5) else 2) = 0 := by rw [if_pos rfl, if_pos h2, if_pos h3]
        rw [e]
        have HH := Lib.hid HW
        have G := Lib.hid hg
        clear e h1 h3 hg HW
        go_enter Try.func79, Try.ntmps79
        go_wp2_with fail
        refine HH.out.mono ?_
        rintro e w1 ⟨rfl, hb1⟩
        go_wp2
        go_loopw [3] (fun i wr => ∃ k : Nat, k ≤ xs.length - 1 ∧ i = .int .i64 (k + 1 : Nat) ∧ Below w.heap.size w wr) (fun i _ => xs.length + 1 - (intOf i).toNat)
        case atStart => exact ⟨0, Nat.zero_le _, rfl, hb1⟩
        case round =>
          obtain ⟨k, hk, rfl, hb⟩ := hrel
          by_cases hlt : k < xs.length - 1
          · have hle := G.out k hlt
            obtain ⟨m, hm⟩ : ∃ m, m = k + 1 := ⟨_, rfl⟩
            obtain ⟨ad, rfl, _, hc1⟩ := (J.out.below hb).at_ (k := k) (by omega)
            obtain ⟨ad', h', _, hc2⟩ := (J.out.below hb).at_ (k := k + 1) (by omega)
            cases h'
            rw [← getD_at] at hc1 hc2
            rw [← hm] at hc2 hle ⊢
            have i0 : (0 : Int) ≤ (m : Int) := by omega
            have i1 : (m : Int) < xs.length := by omega
            have j0 : (0 : Int) ≤ (k : Int) := by omega
            have j1 : (k : Int) < xs.length := by omega
            generalize xs.getD k 0 = x at *
            generalize xs.getD m 0 = y at *
            have HM := Lib.hid hm
            have hw : IntKind.i64.wrap ((m : Int) - 1) = (k : Int) := by rw [IntWalk.i64_in _ (by omega)]; omega
            clear hm
            go_wp2
            go_quiet (fail)
            clear hw
            go_wp2
            go_roundw
            case rel => exact ⟨k + 1, by omega, by have := HM.out; go_num, below_drewN hb _⟩
            case measure => have := HM.out; simp [intOf]; omega
          · have hk2 : (xs.length : Int) ≤ ((k + 1 : Nat) : Int) := by omega
            go_wp2
            go_ret
            exact ⟨rfl, hb⟩
      · have e : (if true = true then (if xs.length ≤ 64 then (if falls xs = true then (0 : Int) else 7) else 5) else 2) = 7 := by rw [if_pos rfl, if_pos h2, if_neg (by rw [h3]; exact Bool.false_ne_true)]
        rw [e]
        have HH := Lib.hid HW
        have G := Lib.hid hg
        have HR := Lib.hid hbr
        clear e h1 h3 hg HW hbr
        go_enter Try.func79, Try.ntmps79
        go_wp2_with fail
        refine HH.out.mono ?_
        rintro e w1 ⟨rfl, hb1⟩
        go_wp2
        go_loopw [3] (fun i wr => ∃ k : Nat, k ≤ b ∧ i = .int .i64 (k + 1 : Nat) ∧ Below w.heap.size w wr) (fun i _ => xs.length + 1 - (intOf i).toNat)
        case atStart => exact ⟨0, Nat.zero_le _, rfl, hb1⟩
        case round =>
          obtain ⟨k, hk, rfl, hb⟩ := hrel
          obtain ⟨m, hm⟩ : ∃ m, m = k + 1 := ⟨_, rfl⟩
          obtain ⟨ad, rfl, _, hc1⟩ := (J.out.below hb).at_ (k := k) (by omega)
          obtain ⟨ad', h', _, hc2⟩ := (J.out.below hb).at_ (k := k + 1) (by omega)
          cases h'
          rw [← getD_at] at hc1 hc2
          have i0 : (0 : Int) ≤ (m : Int) := by omega
          have i1 : (m : Int) < xs.length := by omega
          have j0 : (0 : Int) ≤ (k : Int) := by omega
          have j1 : (k : Int) < xs.length := by omega
          by_cases hlt : k < b
          · have hle := G.out k hlt
            rw [← hm] at hc2 hle ⊢
            generalize xs.getD k 0 = x at *
            generalize xs.getD m 0 = y at *
            have HM := Lib.hid hm
            have hw : IntKind.i64.wrap ((m : Int) - 1) = (k : Int) := by rw [IntWalk.i64_in _ (by omega)]; omega
            clear hm
            go_wp2
            go_quiet (fail)
            clear hw
            go_wp2
            go_roundw
            case rel => exact ⟨k + 1, by omega, by have := HM.out; go_num, below_drewN hb _⟩
            case measure => have := HM.out; simp [intOf]; omega
          · obtain rfl : k = b := by omega
            have hle := HR.out
            rw [← hm] at hc2 hle ⊢
            generalize xs.getD k 0 = x at *
            generalize xs.getD m 0 = y at *
            have hw : IntKind.i64.wrap ((m : Int) - 1) = (k : Int) := by rw [IntWalk.i64_in _ (by omega)]; omega
            clear hm
            go_wp2
            go_quiet (fail)
            clear hw
            go_wp2
            go_ret
            exact ⟨rfl, below_drewN hb _⟩
    · have e : (if true = true then (if xs.length ≤ 64 then (if falls xs = true then (0 : Int) else 7) else 5) else 2) = 5 := by rw [if_pos rfl, if_neg h2]
      rw [e]
      have h2' : (64 : Int) < xs.length := by omega
      have HH := Lib.hid HW
      clear e h1 HW h2
      go_enter Try.func79, Try.ntmps79
      go_wp2_with fail
      refine HH.out.mono ?_
      rintro e w1 ⟨rfl, hb1⟩
      go_wp2
      go_ret
      exact ⟨rfl, hb1⟩
-- TWIN
theorem l11Flows_any (A : Option Addr) (c : Nat) (xs : List Int) (B : Nat) (w : World) (hn : (xs.length : Int) ≤ 1048576) (hI : Ints B w A xs) (hB : B ≤ w.heap.size) (_ : Fits xs) :
    Calls Try.prog 78 #[.slice A xs.length c] w fun e w' => e = .returned (.int .i64 (flowsCode xs)) ∧ Below w.heap.size w w' := by
  have J := Lib.hid (hI.more hB)
  clear hI
  unfold flowsCode
  rcases range_split xs 0 100000 with ⟨h1, g1⟩ | ⟨h1, b, hb, gb, g1⟩
  · rw [h1]
    have G1 := Lib.hid g1
    clear g1
    by_cases h2 : xs.length ≤ 64
    · rcases falls_split xs with ⟨h3, hg⟩ | ⟨h3, b, hbl, hbr, hg⟩
      · have e : (if true = true then (if xs.length ≤ 64 then (if falls xs = true then (0 : Int) else 7) else 5) else 2) = 0 := by rw [if_pos rfl, if_pos h2, if_pos h3]
        rw [e]
        have G := Lib.hid hg
        clear e h1 h3 hg
        go_enter Try.func78, Try.ntmps78
        go_wp2
        go_loop [3] (fun i => ∃ k : Nat, k ≤ xs.length ∧ i = .int .i64 k) (fun i => xs.length + 1 - (intOf i).toNat)
        case atStart => exact ⟨0, Nat.zero_le _, rfl⟩
        case round =>
          obtain ⟨k, hk, rfl⟩ := hrel
          by_cases hlt : k < xs.length
          · obtain ⟨ad, rfl, _, hc⟩ := J.out.at_ (k := k) (Nat.lt_of_lt_of_le hlt (Nat.le_refl _))
            have hin := G1.out k hlt
            generalize xs[k]'(Nat.lt_of_lt_of_le hlt (Nat.le_refl _)) = x at *
            have hkl : (k : Int) < xs.length := by have h0 : xs.length ≤ xs.length := (Nat.le_refl _); omega
            go_wp2_with (go_at_call 71; refine (l11Flow_any _ _).mono ?_; rintro e w' ⟨rfl, rfl⟩)
            go_round
            case rel => exact ⟨k + 1, by omega, by go_num⟩
            case measure => simp [intOf]; omega
          · obtain rfl : k = xs.length := by omega
            have hb1 := Below.refl w.heap.size w
            go_wp2
            go_loopw [4] (fun i wr => ∃ k : Nat, k ≤ xs.length - 1 ∧ i = .int .i64 (k + 1 : Nat) ∧ Below w.heap.size w wr) (fun i _ => xs.length + 1 - (intOf i).toNat)
            case atStart => exact ⟨0, Nat.zero_le _, rfl, hb1⟩
            case round =>
              obtain ⟨k, hk, rfl, hb⟩ := hrel
              by_cases hlt : k < xs.length - 1
              · have hle := G.out k hlt
                obtain ⟨m, hm⟩ : ∃ m, m = k + 1 := ⟨_, rfl⟩
                obtain ⟨ad, rfl, _, hc1⟩ := (J.out.below hb).at_ (k := k) (by omega)
                obtain ⟨ad', h', _, hc2⟩ := (J.out.below hb).at_ (k := k + 1) (by omega)
                cases h'
                rw [← getD_at] at hc1 hc2
                rw [← hm] at hc2 hle ⊢
                have i0 : (0 : Int) ≤ (m : Int) := by omega
                have i1 : (m : Int) < xs.length := by omega
                have j0 : (0 : Int) ≤ (k : Int) := by omega
                have j1 : (k : Int) < xs.length := by omega
                generalize xs.getD k 0 = x at *
                generalize xs.getD m 0 = y at *
                have HM := Lib.hid hm
                have hw : IntKind.i64.wrap ((m : Int) - 1) = (k : Int) := by rw [IntWalk.i64_in _ (by omega)]; omega
                clear hm
                go_wp2
                go_quiet (fail)
                clear hw
                go_wp2
                go_roundw
                case rel => exact ⟨k + 1, by omega, by have := HM.out; go_num, below_drewN hb _⟩
                case measure => have := HM.out; simp [intOf]; omega
              · have hk2 : (xs.length : Int) ≤ ((k + 1 : Nat) : Int) := by omega
                go_wp2
                go_ret
                exact ⟨rfl, hb⟩
      · have e : (if true = true then (if xs.length ≤ 64 then (if falls xs = true then (0 : Int) else 7) else 5) else 2) = 7 := by rw [if_pos rfl, if_pos h2, if_neg (by rw [h3]; exact Bool.false_ne_true)]
        rw [e]
        have G := Lib.hid hg
        have HR := Lib.hid hbr
        clear e h1 h3 hg hbr
        go_enter Try.func78, Try.ntmps78
        go_wp2
        go_loop [3] (fun i => ∃ k : Nat, k ≤ xs.length ∧ i = .int .i64 k) (fun i => xs.length + 1 - (intOf i).toNat)
        case atStart => exact ⟨0, Nat.zero_le _, rfl⟩
        case round =>
          obtain ⟨k, hk, rfl⟩ := hrel
          by_cases hlt : k < xs.length
          · obtain ⟨ad, rfl, _, hc⟩ := J.out.at_ (k := k) (Nat.lt_of_lt_of_le hlt (Nat.le_refl _))
            have hin := G1.out k hlt
            generalize xs[k]'(Nat.lt_of_lt_of_le hlt (Nat.le_refl _)) = x at *
            have hkl : (k : Int) < xs.length := by have h0 : xs.length ≤ xs.length := (Nat.le_refl _); omega
            go_wp2_with (go_at_call 71; refine (l11Flow_any _ _).mono ?_; rintro e w' ⟨rfl, rfl⟩)
            go_round
            case rel => exact ⟨k + 1, by omega, by go_num⟩
            case measure => simp [intOf]; omega
          · obtain rfl : k = xs.length := by omega
            have hb1 := Below.refl w.heap.size w
            go_wp2
            go_loopw [4] (fun i wr => ∃ k : Nat, k ≤ b ∧ i = .int .i64 (k + 1 : Nat) ∧ Below w.heap.size w wr) (fun i _ => xs.length + 1 - (intOf i).toNat)
            case atStart => exact ⟨0, Nat.zero_le _, rfl, hb1⟩
            case round =>
              obtain ⟨k, hk, rfl, hb⟩ := hrel
              obtain ⟨m, hm⟩ : ∃ m, m = k + 1 := ⟨_, rfl⟩
              obtain ⟨ad, rfl, _, hc1⟩ := (J.out.below hb).at_ (k := k) (by omega)
              obtain ⟨ad', h', _, hc2⟩ := (J.out.below hb).at_ (k := k + 1) (by omega)
              cases h'
              rw [← getD_at] at hc1 hc2
              have i0 : (0 : Int) ≤ (m : Int) := by omega
              have i1 : (m : Int) < xs.length := by omega
              have j0 : (0 : Int) ≤ (k : Int) := by omega
              have j1 : (k : Int) < xs.length := by omega
              by_cases hlt : k < b
              · have hle := G.out k hlt
                rw [← hm] at hc2 hle ⊢
                generalize xs.getD k 0 = x at *
                generalize xs.getD m 0 = y at *
                have HM := Lib.hid hm
                have hw : IntKind.i64.wrap ((m : Int) - 1) = (k : Int) := by rw [IntWalk.i64_in _ (by omega)]; omega
                clear hm
                go_wp2
                go_quiet (fail)
                clear hw
                go_wp2
                go_roundw
                case rel => exact ⟨k + 1, by omega, by have := HM.out; go_num, below_drewN hb _⟩
                case measure => have := HM.out; simp [intOf]; omega
              · obtain rfl : k = b := by omega
                have hle := HR.out
                rw [← hm] at hc2 hle ⊢
                generalize xs.getD k 0 = x at *
                generalize xs.getD m 0 = y at *
                have hw : IntKind.i64.wrap ((m : Int) - 1) = (k : Int) := by rw [IntWalk.i64_in _ (by omega)]; omega
                clear hm
                go_wp2
                go_quiet (fail)
                clear hw
                go_wp2
                go_ret
                exact ⟨rfl, below_drewN hb _⟩
    · have e : (if true = true then (if xs.length ≤ 64 then (if falls xs = true then (0 : Int) else 7) else 5) else 2) = 5 := by rw [if_pos rfl, if_neg h2]
      rw [e]
      have h2' : (64 : Int) < xs.length := by omega
      clear e h1 h2
      go_enter Try.func78, Try.ntmps78
      go_wp2
      go_loop [3] (fun i => ∃ k : Nat, k ≤ xs.length ∧ i = .int .i64 k) (fun i => xs.length + 1 - (intOf i).toNat)
      case atStart => exact ⟨0, Nat.zero_le _, rfl⟩
      case round =>
        obtain ⟨k, hk, rfl⟩ := hrel
        by_cases hlt : k < xs.length
        · obtain ⟨ad, rfl, _, hc⟩ := J.out.at_ (k := k) (Nat.lt_of_lt_of_le hlt (Nat.le_refl _))
          have hin := G1.out k hlt
          generalize xs[k]'(Nat.lt_of_lt_of_le hlt (Nat.le_refl _)) = x at *
          have hkl : (k : Int) < xs.length := by have h0 : xs.length ≤ xs.length := (Nat.le_refl _); omega
          go_wp2_with (go_at_call 71; refine (l11Flow_any _ _).mono ?_; rintro e w' ⟨rfl, rfl⟩)
          go_round
          case rel => exact ⟨k + 1, by omega, by go_num⟩
          case measure => simp [intOf]; omega
        · obtain rfl : k = xs.length := by omega
          have hb1 := Below.refl w.heap.size w
          go_wp2
          go_ret
          exact ⟨rfl, hb1⟩
  · rw [h1]
    have G1 := Lib.hid g1
    have hbl : b ≤ xs.length := by omega
    clear h1 g1
    go_enter Try.func78, Try.ntmps78
    go_wp2
    go_loop [3] (fun i => ∃ k : Nat, k ≤ b ∧ i = .int .i64 k) (fun i => b + 1 - (intOf i).toNat)
    case atStart => exact ⟨0, Nat.zero_le _, rfl⟩
    case round =>
      obtain ⟨k, hk, rfl⟩ := hrel
      by_cases hlt : k < b
      · obtain ⟨ad, rfl, _, hc⟩ := J.out.at_ (k := k) (Nat.lt_of_lt_of_le hlt hbl)
        have hin := G1.out k hlt
        generalize xs[k]'(Nat.lt_of_lt_of_le hlt hbl) = x at *
        have hkl : (k : Int) < xs.length := by have h0 : b ≤ xs.length := hbl; omega
        go_wp2_with (go_at_call 71; refine (l11Flow_any _ _).mono ?_; rintro e w' ⟨rfl, rfl⟩)
        go_round
        case rel => exact ⟨k + 1, by omega, by go_num⟩
        case measure => simp [intOf]; omega
      · obtain rfl : b = k := by omega
        obtain ⟨ad, rfl, _, hc⟩ := J.out.at_ (k := b) hb
        generalize xs[b] = y at *
        go_wp2_with (go_at_call 71; refine (l11Flow_any _ _).mono ?_; rintro e w' ⟨rfl, rfl⟩)
        go_ret
        exact ⟨rfl, Below.refl _ _⟩
theorem flowsCode_zero {xs : List Int} (h : flowsCode xs = 0) : (xs.length : Int) ≤ 64 ∧ (∀ x ∈ xs, 0 ≤ x ∧ x ≤ 100000) ∧ ∀ k, k < xs.length - 1 → xs.getD (k + 1) 0 ≤ xs.getD k 0 := by
  unfold flowsCode at h
  cases h1 : allIn xs 0 100000
  · rw [h1] at h; simp at h
  · rw [h1, if_pos rfl] at h
    by_cases h2 : xs.length ≤ 64
    · rw [if_pos h2] at h
      rcases falls_split xs with ⟨h3, hg⟩ | ⟨h3, _⟩
      · exact ⟨by omega, allIn_iff.1 h1, hg⟩
      · rw [h3] at h; simp at h
    · rw [if_neg h2] at h; simp at h
theorem flowsCode_or (xs : List Int) : flowsCode xs = 0 ∨ 1 ≤ flowsCode xs ∧ flowsCode xs ≤ 7 := by
  unfold flowsCode
  split
  · split
    · split <;> omega
    · omega
  · omega
/-- What is lost from each joint to the next. -/
def lossF (xs : List Int) (k : Nat) : List Int := (List.range k).map fun j => xs.getD j 0 - xs.getD (j + 1) 0
theorem lossF_length (xs : List Int) (k : Nat) : (lossF xs k).length = k := by simp [lossF]
theorem lossF_succ (xs : List Int) (k : Nat) : lossF xs (k + 1) = lossF xs k ++ [xs.getD k 0 - xs.getD (k + 1) 0] := by simp [lossF, List.range_succ]
set_option maxRecDepth 100000 in
theorem lossesOf_any (A : Option Addr) (c : Nat) (xs : List Int) (B : Nat) (w : World) (hn : (xs.length : Int) ≤ 64) (hI : Ints B w A xs) (hB : B ≤ w.heap.size) (hx : ∀ x ∈ xs, 0 ≤ x ∧ x ≤ 100000) :
    Calls Try.prog 80 #[.slice A xs.length c] w fun e w' => ∃ v, e = .returned v ∧ Own w.heap.size w' v (lossF xs (xs.length - 1)) ∧ Below w.heap.size w w' := by
  obtain ⟨i0, hi, hz0, hz1, hz2⟩ := info_parts infoI
  have HF := Lib.hid (And.intro hi (And.intro hz0 (And.intro hz1 hz2)))
  clear hi hz0 hz1 hz2
  have J := Lib.hid (hI.more hB)
  have HX := Lib.hid hx
  have HN := Lib.hid (Own.nil_ w.heap.size w)
  clear hI hx
  go_enter Try.func80, Try.ntmps80
  go_wp2
  go_loopw [3, 4] (fun v i wr => ∃ k : Nat, k ≤ xs.length - 1 ∧ i = .int .i64 (k + 1 : Nat) ∧ Below w.heap.size w wr ∧ Own w.heap.size wr v (lossF xs k)) (fun _ i _ => xs.length + 1 - (intOf i).toNat)
  case atStart => exact ⟨0, Nat.zero_le _, rfl, Below.refl _ _, HN.out⟩
  case round =>
    obtain ⟨k, hk, rfl, hb, ho⟩ := hrel
    by_cases hlt : k < xs.length - 1
    · obtain ⟨m, hm⟩ : ∃ m, m = k + 1 := ⟨_, rfl⟩
      obtain ⟨ad, rfl, hab, hc1⟩ := (J.out.below hb).at_ (k := k) (by omega)
      obtain ⟨ad', h', _, hc2⟩ := (J.out.below hb).at_ (k := k + 1) (by omega)
      cases h'
      obtain ⟨x1, x2⟩ := HX.out _ (List.getElem_mem (l := xs) (n := k) (by omega))
      obtain ⟨y1, y2⟩ := HX.out _ (List.getElem_mem (l := xs) (n := k + 1) (by omega))
      rw [← getD_at] at hc1 hc2 x1 x2 y1 y2
      have hs := lossF_succ xs k
      have hl := lossF_length xs k
      rw [← hm] at hc2 y1 y2 hs ⊢
      have i0' : (0 : Int) ≤ (m : Int) := by omega
      have i1' : (m : Int) < xs.length := by omega
      have j0 : (0 : Int) ≤ (k : Int) := by omega
      have j1 : (k : Int) < xs.length := by omega
      generalize xs.getD k 0 = x at *
      generalize xs.getD m 0 = y at *
      have HM := Lib.hid hm
      have HS := Lib.hid hs
      have HL := Lib.hid hl
      have HO := Lib.hid ho
      have hw : IntKind.i64.wrap ((m : Int) - 1) = (k : Int) := by rw [IntWalk.i64_in _ (by omega)]; omega
      have hw2 : IntKind.i64.wrap (x - y) = x - y := IntWalk.i64_in _ (by omega)
      have hsz := hb.size
      have hl2 := hl
      clear hm hs hl ho
      go_wp2
      go_region_held_law (fun w' => w'.cell? (ad.add k) = some (.int .i64 x) ∧ w'.cell? (ad.add m) = some (.int .i64 y))
        (first
          | go_keep
          | (go_split_ands
             refine ⟨?_, ?_⟩
             · exact ((Below.appended2 ((Below.refl wr.heap.size wr).mono hsz) HO.out hsz hgrow).cell (p := ad.add k) (by rw [block_add]; exact hab)).trans hc1
             · exact ((Below.appended2 ((Below.refl wr.heap.size wr).mono hsz) HO.out hsz hgrow).cell (p := ad.add m) (by rw [block_add]; exact hab)).trans hc2))
        ((refine step_append_lies _ (by rfl) _ _ _ (by rfl) w.heap.size 2 i0 (.int .i64 0) 1 8 Try.underlying37 HF.out.1 HF.out.2.1 HF.out.2.2.1 HF.out.2.2.2 rfl (by decide) _ _ _ (by rfl) ((HO.out.alloc _).drew)
            ⟨wr.heap.size, 0, none⟩ 1 1 [.int .i64 (x - y)] (by rfl) (by rfl) (World.news_of_block (cs := #[.int .i64 (x - y)]) (t := 2) (fr := (0, 0)) (heap_alloc_new wr _)) (by simp [Value.oneCell'])
            (by omega) (le_max (by omega)) (by omega) (by simp; omega) (wr.heap.size + 1) (by simp) ?_; intro gg cap w1 hown1 hgrow hat hlt'))
      go_wp2
      go_roundw
      case rel =>
        have ho' := Own.appended hown1
        rw [HL.out, ← HS.out, HM.out] at ho'
        exact ⟨k + 1, by omega, by have := HM.out; go_num, Below.appended2 hb HO.out hsz hgrow, ho'⟩
      case measure => have := HM.out; simp [intOf]; omega
    · go_wp2
      go_ret
      obtain rfl : k = xs.length - 1 := by omega
      exact ⟨_, rfl, ho, hb⟩
end Go.Proofs.Ytmfbdngibbkciaa
