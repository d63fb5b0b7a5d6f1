/- Flows along a duct: their code, what is lost from joint to joint; the program's and the reference's. Conditions: the bounds that each theorem names. -/
import Derived.Test.YtiiidloobfimcaaBase
import Derived.Test.YtiiidloobfimcaaList
import Derived.Test.YtiiidloobfimcaaRes
import Derived.Test.YtiiidloobfimcaaHof
import Derived.IntWalk
import Derived.BigQuiet
import Derived.Deep.RegionHeldLaw
import Derived.Deep.AppendLies
import Derived.Deep.DrawnRows
namespace Go.Proofs.Ytiiidloobfimcaa
open Go.RowKit
open Pl
attribute [local go_sem ↓] Go.wp_at_zero Go.wp_at_succ
theorem getD_at {xs : List Int} {k : Nat} (h : k < xs.length) : xs.getD k 0 = xs[k] := by simp [List.getD, h]
/-- A property of the numbers below n: all have it, or there is a first that hasn't. -/
theorem two_split (P : Nat → Bool) : ∀ n : Nat, (∀ k, k < n → P k = true) ∨ ∃ b, b < n ∧ P b = false ∧ ∀ k, k < b → P k = true
  | 0 => .inl (fun k h => by omega)
  | n + 1 => by
    rcases two_split P n with h | ⟨b, h1, h2, h3⟩
    · cases hp : P n
      · exact .inr ⟨n, by omega, hp, h⟩
      · exact .inl (fun k hk => by by_cases e : k = n; (subst e; exact hp); exact h k (by omega))
    · exact .inr ⟨b, by omega, h2, h3⟩
/-- The numbers of a list never rise. -/
def falls (xs : List Int) : Bool := (List.range (xs.length - 1)).all fun k => decide (xs.getD (k + 1) 0 ≤ xs.getD k 0)
theorem falls_split (xs : List Int) : (falls xs = true ∧ ∀ k, k < xs.length - 1 → xs.getD (k + 1) 0 ≤ xs.getD k 0) ∨ (falls xs = false ∧ ∃ b, b < xs.length - 1 ∧ xs.getD b 0 < xs.getD (b + 1) 0 ∧ ∀ k, k < b → xs.getD (k + 1) 0 ≤ xs.getD k 0) := by
  rcases two_split (fun k => decide (xs.getD (k + 1) 0 ≤ xs.getD k 0)) (xs.length - 1) with h | ⟨b, h1, h2, h3⟩
  · exact .inl ⟨by unfold falls; rw [List.all_eq_true]; intro k hk; exact h k (List.mem_range.1 hk), fun k hk => of_decide_eq_true (h k hk)⟩
  · refine .inr ⟨?_, b, h1, by have := of_decide_eq_false h2; omega, fun k hk => of_decide_eq_true (h3 k hk)⟩
    cases hf : falls xs
    · rfl
    · unfold falls at hf
      rw [List.all_eq_true] at hf
      rw [hf b (List.mem_range.2 h1)] at h2
      exact absurd h2 (by simp)
def flowsCode (xs : List Int) : Int := if allIn xs 0 100000 then (if xs.length ≤ 64 then (if falls xs then 0 else 7) else 5) else 2
theorem ductFlowsCode_any (A : Option Addr) (c : Nat) (xs : List Int) (B : Nat) (w : World) (hn : (xs.length : Int) ≤ 1048576) (hI : Ints B w A xs) (hB : B ≤ w.heap.size) (hT : Fits xs) :
    Calls Try.prog 70 #[.slice A xs.length c] w fun e w' => e = .returned (.int .i64 (flowsCode xs)) ∧ Below w.heap.size w w' := by
  have HW := allWithin_any A c xs 0 100000 B w (by omega) hI hB hT
  have J := Lib.hid (hI.more hB)
  clear hI hT
  unfold flowsCode
  cases h1 : allIn xs 0 100000
  · rw [h1] at HW
    have HW := Lib.hid HW
    go_enter Try.func70, Try.ntmps70
    go_wp2_with fail
    refine HW.out.mono ?_
    rintro e w1 ⟨rfl, hb1⟩
    go_wp2
    go_ret
    exact ⟨rfl, hb1⟩
  · rw [h1] at HW
    by_cases h2 : xs.length ≤ 64
    · rcases falls_split xs with ⟨h3, hg⟩ | ⟨h3, b, hbl, hbr, hg⟩
      · have e : (if true = true then (if xs.length ≤ 64 then (if falls xs = true then (0 : Int) else 7) else 5) else 2) = 0 := by rw [if_pos rfl, if_pos h2, if_pos h3]
        rw [e]
        have HH := Lib.hid HW
        have G := Lib.hid hg
        clear e h1 h3 hg HW
        go_enter Try.func70, Try.ntmps70
        go_wp2_with fail
        refine HH.out.mono ?_
        rintro e w1 ⟨rfl, hb1⟩
        go_wp2
        go_loopw [3] (fun i wr => ∃ k : Nat, k ≤ xs.length - 1 ∧ i = .int .i64 (k + 1 : Nat) ∧ Below w.heap.size w wr) (fun i _ => xs.length + 1 - (intOf i).toNat)
        case atStart => exact ⟨0, Nat.zero_le _, rfl, hb1⟩
        case round =>
          obtain ⟨k, hk, rfl, hb⟩ := hrel
          by_cases hlt : k < xs.length - 1
          · have hle := G.out k hlt
            obtain ⟨m, hm⟩ : ∃ m, m = k + 1 := ⟨_, rfl⟩
            obtain ⟨ad, rfl, _, hc1⟩ := (J.out.below hb).at_ (k := k) (by omega)
            obtain ⟨ad', h', _, hc2⟩ := (J.out.below hb).at_ (k := k + 1) (by omega)
            cases h'
            rw [← getD_at] at hc1 hc2
            rw [← hm] at hc2 hle ⊢
            have i0 : (0 : Int) ≤ (m : Int) := by omega
            have i1 : (m : Int) < xs.length := by omega
            have j0 : (0 : Int) ≤ (k : Int) := by omega
            have j1 : (k : Int) < xs.length := by omega
            generalize xs.getD k 0 = x at *
            generalize xs.getD m 0 = y at *
            have HM := Lib.hid hm
            have hw : IntKind.i64.wrap ((m : Int) - 1) = (k : Int) := by rw [IntWalk.i64_in _ (by omega)]; omega
            clear hm
            go_wp2
            go_quiet (fail)
            clear hw
            go_wp2
            go_roundw
            case rel => exact ⟨k + 1, by omega, by have := HM.out; go_num, below_drewN hb _⟩
            case measure => have := HM.out; simp [intOf]; omega
          · have hk2 : (xs.length : Int) ≤ ((k + 1 : Nat) : Int) := by omega
            go_wp2
            go_ret
            exact ⟨rfl, hb⟩
      · have e : (if true = true then (if xs.length ≤ 64 then (if falls xs = true then (0 : Int) else 7) else 5) else 2) = 7 := by rw [if_pos rfl, if_pos h2, if_neg (by rw [h3]; exact Bool.false_ne_true)]
        rw [e]
        have HH := Lib.hid HW
        have G := Lib.hid hg
        have HR := Lib.hid hbr
        clear e h1 h3 hg HW hbr
        go_enter Try.func70, Try.ntmps70
        go_wp2_with fail
        refine HH.out.mono ?_
        rintro e w1 ⟨rfl, hb1⟩
        go_wp2
        go_loopw [3] (fun i wr => ∃ k : Nat, k ≤ b ∧ i = .int .i64 (k + 1 : Nat) ∧ Below w.heap.size w wr) (fun i _ => xs.length + 1 - (intOf i).toNat)
        case atStart => exact ⟨0, Nat.zero_le _, rfl, hb1⟩
        case round =>
          obtain ⟨k, hk, rfl, hb⟩ := hrel
          obtain ⟨m, hm⟩ : ∃ m, m = k + 1 := ⟨_, rfl⟩
          obtain ⟨ad, rfl, _, hc1⟩ := (J.out.below hb).at_ (k := k) (by omega)
          obtain ⟨ad', h', _, hc2⟩ := (J.out.below hb).at_ (k := k + 1) (by omega)
          cases h'
          rw [← getD_at] at hc1 hc2
          have i0 : (0 : Int) ≤ (m : Int) := by omega
          have i1 : (m : Int) < xs.length := by omega
          have j0 : (0 : Int) ≤ (k : Int) := by omega
          have j1 : (k : Int) < xs.length := by omega
          by_cases hlt : k < b
          · have hle := G.out k hlt
            rw [← hm] at hc2 hle ⊢
            generalize xs.getD k 0 = x at *
            generalize xs.getD m 0 = y at *
            have HM := Lib.hid hm
            have hw : IntKind.i64.wrap ((m : Int) - 1) = (k : Int) := by rw [IntWalk.i64_in _ (by omega)]; omega
            clear hm
            go_wp2
            go_quiet (fail)
            clear hw
            go_wp2
            go_roundw
            case rel => exact ⟨k + 1, by omega, by have := HM.out; go_num, below_drewN hb _⟩
            case measure => have := HM.out; simp [intOf]; omega
          · obtain rfl : k = b := by omega
            have hle := HR.out
            rw [← hm] at hc2 hle ⊢
            generalize xs.getD k 0 = x at *
            generalize xs.getD m 0 = y at *
            have hw : IntKind.i64.wrap ((m : Int) - 1) = (k : Int) := by rw [IntWalk.i64_in _ (by omega)]; omega
            clear hm
            go_wp2
            go_quiet (fail)
            clear hw
            go_wp2
            go_ret
            exact ⟨rfl, below_drewN hb _⟩
    · have e : (if true = true then (if xs.length ≤ 64 then (if falls xs = true then (0 : Int) else 7) else 5) else 2) = 5 := by rw [if_pos rfl, if_neg h2]
      rw [e]
      have h2' : (64 : Int) < xs.length := by omega
      have HH := Lib.hid HW
      clear e h1 HW h2
      go_enter Try.func70, Try.ntmps70
      go_wp2_with fail
      refine HH.out.mono ?_
      rintro e w1 ⟨rfl, hb1⟩
      go_wp2
      go_ret
      exact ⟨rfl, hb1⟩
-- TWIN
theorem l11Flows_any (A : Option Addr) (c : Nat) (xs : List Int) (B : Nat) (w : World) (hn : (xs.length : Int) ≤ 1048576) (hI : Ints B w A xs) (hB : B ≤ w.heap.size) (_ : Fits xs) :
    Calls Try.prog 69 #[.slice A xs.length c] w fun e w' => e = .returned (.int .i64 (flowsCode xs)) ∧ Below w.heap.size w w' := by
  have J := Lib.hid (hI.more hB)
  clear hI
  unfold flowsCode
  rcases range_split xs 0 100000 with ⟨h1, g1⟩ | ⟨h1, b, hb, gb, g1⟩
  · rw [h1]
    have G1 := Lib.hid g1
    clear g1
    by_cases h2 : xs.length ≤ 64
    · rcases falls_split xs with ⟨h3, hg⟩ | ⟨h3, b, hbl, hbr, hg⟩
      · have e : (if true = true then (if xs.length ≤ 64 then (if falls xs = true then (0 : Int) else 7) else 5) else 2) = 0 := by rw [if_pos rfl, if_pos h2, if_pos h3]
        rw [e]
        have G := Lib.hid hg
        clear e h1 h3 hg
        go_enter Try.func69, Try.ntmps69
        go_wp2
        go_loop [3] (fun i => ∃ k : Nat, k ≤ xs.length ∧ i = .int .i64 k) (fun i => xs.length + 1 - (intOf i).toNat)
        case atStart => exact ⟨0, Nat.zero_le _, rfl⟩
        case round =>
          obtain ⟨k, hk, rfl⟩ := hrel
          by_cases hlt : k < xs.length
          · obtain ⟨ad, rfl, _, hc⟩ := J.out.at_ (k := k) (Nat.lt_of_lt_of_le hlt (Nat.le_refl _))
            have hin := G1.out k hlt
            generalize xs[k]'(Nat.lt_of_lt_of_le hlt (Nat.le_refl _)) = x at *
            have hkl : (k : Int) < xs.length := by have h0 : xs.length ≤ xs.length := (Nat.le_refl _); omega
            go_wp2_with (go_at_call 80; refine (l11Flow_any _ _).mono ?_; rintro e w' ⟨rfl, rfl⟩)
            go_round
            case rel => exact ⟨k + 1, by omega, by go_num⟩
            case measure => simp [intOf]; omega
          · obtain rfl : k = xs.length := by omega
            have hb1 := Below.refl w.heap.size w
            go_wp2
            go_loopw [4] (fun i wr => ∃ k : Nat, k ≤ xs.length - 1 ∧ i = .int .i64 (k + 1 : Nat) ∧ Below w.heap.size w wr) (fun i _ => xs.length + 1 - (intOf i).toNat)
            case atStart => exact ⟨0, Nat.zero_le _, rfl, hb1⟩
            case round =>
              obtain ⟨k, hk, rfl, hb⟩ := hrel
              by_cases hlt : k < xs.length - 1
              · have hle := G.out k hlt
                obtain ⟨m, hm⟩ : ∃ m, m = k + 1 := ⟨_, rfl⟩
                obtain ⟨ad, rfl, _, hc1⟩ := (J.out.below hb).at_ (k := k) (by omega)
                obtain ⟨ad', h', _, hc2⟩ := (J.out.below hb).at_ (k := k + 1) (by omega)
                cases h'
                rw [← getD_at] at hc1 hc2
                rw [← hm] at hc2 hle ⊢
                have i0 : (0 : Int) ≤ (m : Int) := by omega
                have i1 : (m : Int) < xs.length := by omega
                have j0 : (0 : Int) ≤ (k : Int) := by omega
                have j1 : (k : Int) < xs.length := by omega
                generalize xs.getD k 0 = x at *
                generalize xs.getD m 0 = y at *
                have HM := Lib.hid hm
                have hw : IntKind.i64.wrap ((m : Int) - 1) = (k : Int) := by rw [IntWalk.i64_in _ (by omega)]; omega
                clear hm
                go_wp2
                go_quiet (fail)
                clear hw
                go_wp2
                go_roundw
                case rel => exact ⟨k + 1, by omega, by have := HM.out; go_num, below_drewN hb _⟩
                case measure => have := HM.out; simp [intOf]; omega
              · have hk2 : (xs.length : Int) ≤ ((k + 1 : Nat) : Int) := by omega
                go_wp2
                go_ret
                exact ⟨rfl, hb⟩
      · have e : (if true = true then (if xs.length ≤ 64 then (if falls xs = true then (0 : Int) else 7) else 5) else 2) = 7 := by rw [if_pos rfl, if_pos h2, if_neg (by rw [h3]; exact Bool.false_ne_true)]
        rw [e]
        have G := Lib.hid hg
        have HR := Lib.hid hbr
        clear e h1 h3 hg hbr
        go_enter Try.func69, Try.ntmps69
        go_wp2
        go_loop [3] (fun i => ∃ k : Nat, k ≤ xs.length ∧ i = .int .i64 k) (fun i => xs.length + 1 - (intOf i).toNat)
        case atStart => exact ⟨0, Nat.zero_le _, rfl⟩
        case round =>
          obtain ⟨k, hk, rfl⟩ := hrel
          by_cases hlt : k < xs.length
          · obtain ⟨ad, rfl, _, hc⟩ := J.out.at_ (k := k) (Nat.lt_of_lt_of_le hlt (Nat.le_refl _))
            have hin := G1.out k hlt
            generalize xs[k]'(Nat.lt_of_lt_of_le hlt (Nat.le_refl _)) = x at *
            have hkl : (k : Int) < xs.length := by have h0 : xs.length ≤ xs.length := (Nat.le_refl _); omega
            go_wp2_with (go_at_call 80; refine (l11Flow_any _ _).mono ?_; rintro e w' ⟨rfl, rfl⟩)
            go_round
            case rel => exact ⟨k + 1, by omega, by go_num⟩
            case measure => simp [intOf]; omega
          · obtain rfl : k = xs.length := by omega
            have hb1 := Below.refl w.heap.size w
            go_wp2
            go_loopw [4] (fun i wr => ∃ k : Nat, k ≤ b ∧ i = .int .i64 (k + 1 : Nat) ∧ Below w.heap.size w wr) (fun i _ => xs.length + 1 - (intOf i).toNat)
            case atStart => exact ⟨0, Nat.zero_le _, rfl, hb1⟩
            case round =>
              obtain ⟨k, hk, rfl, hb⟩ := hrel
              obtain ⟨m, hm⟩ : ∃ m, m = k + 1 := ⟨_, rfl⟩
              obtain ⟨ad, rfl, _, hc1⟩ := (J.out.below hb).at_ (k := k) (by omega)
              obtain ⟨ad', h', _, hc2⟩ := (J.out.below hb).at_ (k := k + 1) (by omega)
              cases h'
              rw [← getD_at] at hc1 hc2
              have i0 : (0 : Int) ≤ (m : Int) := by omega
              have i1 : (m : Int) < xs.length := by omega
              have j0 : (0 : Int) ≤ (k : Int) := by omega
              have j1 : (k : Int) < xs.length := by omega
              by_cases hlt : k < b
              · have hle := G.out k hlt
                rw [← hm] at hc2 hle ⊢
                generalize xs.getD k 0 = x at *
                generalize xs.getD m 0 = y at *
                have HM := Lib.hid hm
                have hw : IntKind.i64.wrap ((m : Int) - 1) = (k : Int) := by rw [IntWalk.i64_in _ (by omega)]; omega
                clear hm
                go_wp2
                go_quiet (fail)
                clear hw
                go_wp2
                go_roundw
                case rel => exact ⟨k + 1, by omega, by have := HM.out; go_num, below_drewN hb _⟩
                case measure => have := HM.out; simp [intOf]; omega
              · obtain rfl : k = b := by omega
                have hle := HR.out
                rw [← hm] at hc2 hle ⊢
                generalize xs.getD k 0 = x at *
                generalize xs.getD m 0 = y at *
                have hw : IntKind.i64.wrap ((m : Int) - 1) = (k : Int) := by rw [IntWalk.i64_in _ (by omega)]; omega
                clear hm
                go_wp2
                go_quiet (fail)
                clear hw
                go_wp2
                go_ret
                exact ⟨rfl, below_drewN hb _⟩
    · have e : (if true = true then (if xs.length ≤ 64 then (if falls xs = true then (0 : Int) else 7) else 5) else 2) = 5 := by rw [if_pos rfl, if_neg h2]
      rw [e]
      have h2' : (64 : Int) < xs.length := by omega
      clear e h1 h2
      go_enter Try.func69, Try.ntmps69
      go_wp2
      go_loop [3] (fun i => ∃ k : Nat, k ≤ xs.length ∧ i = .int .i64 k) (fun i => xs.length + 1 - (intOf i).toNat)
      case atStart => exact ⟨0, Nat.zero_le _, rfl⟩
      case round =>
        obtain ⟨k, hk, rfl⟩ := hrel
        by_cases hlt : k < xs.length
        · obtain ⟨ad, rfl, _, hc⟩ := J.out.at_ (k := k) (Nat.lt_of_lt_of_le hlt (Nat.le_refl _))
          have hin := G1.out k hlt
          generalize xs[k]'(Nat.lt_of_lt_of_le hlt (Nat.le_refl _)) = x at *
          have hkl : (k : Int) < xs.length := by have h0 : xs.length ≤ xs.length := (Nat.le_refl _); omega
          go_wp2_with (go_at_call 80; refine (l11Flow_any _ _).mono ?_; rintro e w' ⟨rfl, rfl⟩)
          go_round
          case rel => exact ⟨k + 1, by omega, by go_num⟩
          case measure => simp [intOf]; omega
        · obtain rfl : k = xs.length := by omega
          have hb1 := Below.refl w.heap.size w
          go_wp2
          go_ret
          exact ⟨rfl, hb1⟩
  · rw [h1]
    have G1 := Lib.hid g1
    have hbl : b ≤ xs.length := by omega
    clear h1 g1
    go_enter Try.func69, Try.ntmps69
    go_wp2
    go_loop [3] (fun i => ∃ k : Nat, k ≤ b ∧ i = .int .i64 k) (fun i => b + 1 - (intOf i).toNat)
    case atStart => exact ⟨0, Nat.zero_le _, rfl⟩
    case round =>
      obtain ⟨k, hk, rfl⟩ := hrel
      by_cases hlt : k < b
      · obtain ⟨ad, rfl, _, hc⟩ := J.out.at_ (k := k) (Nat.lt_of_lt_of_le hlt hbl)
        have hin := G1.out k hlt
        generalize xs[k]'(Nat.lt_of_lt_of_le hlt hbl) = x at *
        have hkl : (k : Int) < xs.length := by have h0 : b ≤ xs.length := hbl; omega
        go_wp2_with (go_at_call 80; refine (l11Flow_any _ _).mono ?_; rintro e w' ⟨rfl, rfl⟩)
        go_round
        case rel => exact ⟨k + 1, by omega, by go_num⟩
        case measure => simp [intOf]; omega
      · obtain rfl : b = k := by omega
        obtain ⟨ad, rfl, _, hc⟩ := J.out.at_ (k := b) hb
        generalize xs[b] = y at *
        go_wp2_with (go_at_call 80; refine (l11Flow_any _ _).mono ?_; rintro e w' ⟨rfl, rfl⟩)
        go_ret
        exact ⟨rfl, Below.refl _ _⟩
/-- What is lost from each joint to the next. -/
def lossF (xs : List Int) (k : Nat) : List Int := (List.range k).map fun j => xs.getD j 0 - xs.getD (j + 1) 0
theorem lossF_length (xs : List Int) (k : Nat) : (lossF xs k).length = k := by simp [lossF]
theorem lossF_succ (xs : List Int) (k : Nat) : lossF xs (k + 1) = lossF xs k ++ [xs.getD k 0 - xs.getD (k + 1) 0] := by simp [lossF, List.range_succ]
set_option maxRecDepth 100000 in
theorem lossesOf_any (A : Option Addr) (c : Nat) (xs : List Int) (B : Nat) (w : World) (hn : (xs.length : Int) ≤ 64) (hI : Ints B w A xs) (hB : B ≤ w.heap.size) (hx : ∀ x ∈ xs, 0 ≤ x ∧ x ≤ 100000) :
    Calls Try.prog 71 #[.slice A xs.length c] w fun e w' => ∃ v, e = .returned v ∧ Own w.heap.size w' v (lossF xs (xs.length - 1)) ∧ Below w.heap.size w w' := by
  obtain ⟨i0, hi, hz0, hz1, hz2⟩ := info_parts infoI
  have HF := Lib.hid (And.intro hi (And.intro hz0 (And.intro hz1 hz2)))
  clear hi hz0 hz1 hz2
  have J := Lib.hid (hI.more hB)
  have HX := Lib.hid hx
  have HN := Lib.hid (Own.nil_ w.heap.size w)
  clear hI hx
  go_enter Try.func71, Try.ntmps71
  go_wp2
  go_loopw [3, 4] (fun v i wr => ∃ k : Nat, k ≤ xs.length - 1 ∧ i = .int .i64 (k + 1 : Nat) ∧ Below w.heap.size w wr ∧ Own w.heap.size wr v (lossF xs k)) (fun _ i _ => xs.length + 1 - (intOf i).toNat)
  case atStart => exact ⟨0, Nat.zero_le _, rfl, Below.refl _ _, HN.out⟩
  case round =>
    obtain ⟨k, hk, rfl, hb, ho⟩ := hrel
    by_cases hlt : k < xs.length - 1
    · obtain ⟨m, hm⟩ : ∃ m, m = k + 1 := ⟨_, rfl⟩
      obtain ⟨ad, rfl, hab, hc1⟩ := (J.out.below hb).at_ (k := k) (by omega)
      obtain ⟨ad', h', _, hc2⟩ := (J.out.below hb).at_ (k := k + 1) (by omega)
      cases h'
      obtain ⟨x1, x2⟩ := HX.out _ (List.getElem_mem (l := xs) (n := k) (by omega))
      obtain ⟨y1, y2⟩ := HX.out _ (List.getElem_mem (l := xs) (n := k + 1) (by omega))
      rw [← getD_at] at hc1 hc2 x1 x2 y1 y2
      have hs := lossF_succ xs k
      have hl := lossF_length xs k
      rw [← hm] at hc2 y1 y2 hs ⊢
      have i0' : (0 : Int) ≤ (m : Int) := by omega
      have i1' : (m : Int) < xs.length := by omega
      have j0 : (0 : Int) ≤ (k : Int) := by omega
      have j1 : (k : Int) < xs.length := by omega
      generalize xs.getD k 0 = x at *
      generalize xs.getD m 0 = y at *
      have HM := Lib.hid hm
      have HS := Lib.hid hs
      have HL := Lib.hid hl
      have HO := Lib.hid ho
      have hw : IntKind.i64.wrap ((m : Int) - 1) = (k : Int) := by rw [IntWalk.i64_in _ (by omega)]; omega
      have hw2 : IntKind.i64.wrap (x - y) = x - y := IntWalk.i64_in _ (by omega)
      have hsz := hb.size
      have hl2 := hl
      clear hm hs hl ho
      go_wp2
      go_region_held_law (fun w' => w'.cell? (ad.add k) = some (.int .i64 x) ∧ w'.cell? (ad.add m) = some (.int .i64 y))
        (first
          | go_keep
          | (go_split_ands
             refine ⟨?_, ?_⟩
             · exact ((Below.appended2 ((Below.refl wr.heap.size wr).mono hsz) HO.out hsz hgrow).cell (p := ad.add k) (by rw [block_add]; exact hab)).trans hc1
             · exact ((Below.appended2 ((Below.refl wr.heap.size wr).mono hsz) HO.out hsz hgrow).cell (p := ad.add m) (by rw [block_add]; exact hab)).trans hc2))
        ((refine step_append_lies _ (by rfl) _ _ _ (by rfl) w.heap.size 2 i0 (.int .i64 0) 1 8 Try.underlying32 HF.out.1 HF.out.2.1 HF.out.2.2.1 HF.out.2.2.2 rfl (by decide) _ _ _ (by rfl) ((HO.out.alloc _).drew)
            ⟨wr.heap.size, 0, none⟩ 1 1 [.int .i64 (x - y)] (by rfl) (by rfl) (World.news_of_block (cs := #[.int .i64 (x - y)]) (t := 2) (fr := (0, 0)) (heap_alloc_new wr _)) (by simp [Value.oneCell'])
            (by omega) (le_max (by omega)) (by omega) (by simp; omega) (wr.heap.size + 1) (by simp) ?_; intro gg cap w1 hown1 hgrow hat hlt'))
      go_wp2
      go_roundw
      case rel =>
        have ho' := Own.appended hown1
        rw [HL.out, ← HS.out, HM.out] at ho'
        exact ⟨k + 1, by omega, by have := HM.out; go_num, Below.appended2 hb HO.out hsz hgrow, ho'⟩
      case measure => have := HM.out; simp [intOf]; omega
    · go_wp2
      go_ret
      obtain rfl : k = xs.length - 1 := by omega
      exact ⟨_, rfl, ho, hb⟩
def lossesF (xs : List Int) : List Int × Int := if flowsCode xs = 0 then (lossF xs (xs.length - 1), 0) else ([], flowsCode xs)
theorem flowsCode_zero {xs : List Int} (h : flowsCode xs = 0) : (xs.length : Int) ≤ 64 ∧ (∀ x ∈ xs, 0 ≤ x ∧ x ≤ 100000) ∧ ∀ k, k < xs.length - 1 → xs.getD (k + 1) 0 ≤ xs.getD k 0 := by
  unfold flowsCode at h
  cases h1 : allIn xs 0 100000
  · rw [h1] at h; simp at h
  · rw [h1, if_pos rfl] at h
    by_cases h2 : xs.length ≤ 64
    · rw [if_pos h2] at h
      rcases falls_split xs with ⟨h3, hg⟩ | ⟨h3, _⟩
      · exact ⟨by omega, allIn_iff.1 h1, hg⟩
      · rw [h3] at h; simp at h
    · rw [if_neg h2] at h; simp at h
theorem flowsCode_or (xs : List Int) : flowsCode xs = 0 ∨ 1 ≤ flowsCode xs ∧ flowsCode xs ≤ 7 := by
  unfold flowsCode
  split
  · split
    · split <;> omega
    · omega
  · omega
theorem LossesOf_i (A : Option Addr) (c : Nat) (xs : List Int) (w : World) (hn : (xs.length : Int) ≤ 1048576) (hI : Ints w.heap.size w A xs) (hT : Fits xs) :
    Calls Try.prog 30 #[.slice A xs.length c] w fun e w' => ∃ v, e = .returned (.tuple #[v, .int .i64 (lossesF xs).2]) ∧ Own w.heap.size w' v (lossesF xs).1 ∧ Below w.heap.size w w' := by
  have HC := ductFlowsCode_any A c xs w.heap.size w hn hI (Nat.le_refl _) hT
  unfold lossesF
  rcases flowsCode_or xs with h | ⟨h, h'⟩
  · obtain ⟨h1, h2, h3⟩ := flowsCode_zero h
    rw [if_pos h]
    rw [h] at HC
    have HL := Lib.hid (fun (W : World) (hb : Below w.heap.size w W) => lossesOf_any A c xs w.heap.size W h1 (hI.below hb) hb.size h2)
    have HC := Lib.hid HC
    clear h h2 h3 hI hT
    go_enter Try.func30, Try.ntmps30
    go_wp2_with fail
    refine HC.out.mono ?_
    rintro e w1 ⟨rfl, hb1⟩
    go_wp2_with fail
    refine (HL.out _ hb1).mono ?_
    rintro e w2 ⟨v, rfl, ho, hb2⟩
    have HO := Lib.hid (ho.base (b' := w.heap.size) (fun g hg => Nat.le_trans hb1.size (World.ownsRow.lt ho g hg).1))
    clear ho
    go_wp2
    go_ret2
    exact ⟨_, rfl, HO.out, hb1.trans (hb2.mono hb1.size)⟩
  · rw [if_neg (by omega)]
    generalize flowsCode xs = q at *
    have HC := Lib.hid HC
    have HN := Lib.hid (Own.nil_ w.heap.size)
    have hq : (q != 0) = true := by simp; omega
    clear hI hT h h'
    go_enter Try.func30, Try.ntmps30
    go_wp2_with fail
    refine HC.out.mono ?_
    rintro e w1 ⟨rfl, hb1⟩
    go_wp2
    go_ret2
    exact ⟨_, rfl, HN.out w1, hb1⟩
theorem lossesF_len (xs : List Int) (hn : (xs.length : Int) ≤ 1048576) : (lossesF xs).1.length ≤ 1048576 := by
  unfold lossesF
  split
  · simp [lossF_length]; omega
  · simp
set_option maxRecDepth 100000 in
theorem LossesOf_s (A : Option Addr) (c : Nat) (xs : List Int) (w : World) (hn : (xs.length : Int) ≤ 1048576) (hI : Ints w.heap.size w A xs) (hT : Fits xs) :
    Calls Try.prog 29 #[.slice A xs.length c] w fun e w' => ∃ v, e = .returned (.tuple #[v, .int .i64 (lossesF xs).2]) ∧ Own w.heap.size w' v (lossesF xs).1 ∧ Below w.heap.size w w' := by
  have HC := l11Flows_any A c xs w.heap.size w hn hI (Nat.le_refl _) hT
  unfold lossesF
  obtain ⟨i0, hi, hz0, hz1, hz2⟩ := info_parts infoI
  have HF := Lib.hid (And.intro hi (And.intro hz0 (And.intro hz1 hz2)))
  clear hi hz0 hz1 hz2
  rcases flowsCode_or xs with h | ⟨h, h'⟩
  · obtain ⟨h1, h2, h3⟩ := flowsCode_zero h
    rw [if_pos h]
    rw [h] at HC
    have J := Lib.hid hI
    have HX := Lib.hid h2
    have HC := Lib.hid HC
    clear h h2 h3 hI hT
    go_enter Try.func29, Try.ntmps29
    go_wp2_with fail
    refine HC.out.mono ?_
    rintro e w1 ⟨rfl, hb1⟩
    go_wp2
    go_loopw [5, 6] (fun v i wr => ∃ k : Nat, k ≤ xs.length - 1 ∧ i = .int .i64 (k + 1 : Nat) ∧ Below w.heap.size w wr ∧ Own w.heap.size wr v (lossF xs k)) (fun _ i _ => xs.length + 1 - (intOf i).toNat)
    case atStart => exact ⟨0, Nat.zero_le _, rfl, hb1.alloc hb1.size _, Own.empty hb1.size⟩
    case round =>
      obtain ⟨k, hk, rfl, hb, ho⟩ := hrel
      by_cases hlt : k < xs.length - 1
      · obtain ⟨m, hm⟩ : ∃ m, m = k + 1 := ⟨_, rfl⟩
        obtain ⟨ad, rfl, hab, hc1⟩ := (J.out.below hb).at_ (k := k) (by omega)
        obtain ⟨ad', h', _, hc2⟩ := (J.out.below hb).at_ (k := k + 1) (by omega)
        cases h'
        obtain ⟨x1, x2⟩ := HX.out _ (List.getElem_mem (l := xs) (n := k) (by omega))
        obtain ⟨y1, y2⟩ := HX.out _ (List.getElem_mem (l := xs) (n := k + 1) (by omega))
        rw [← getD_at] at hc1 hc2 x1 x2 y1 y2
        have hs := lossF_succ xs k
        have hl := lossF_length xs k
        rw [← hm] at hc2 y1 y2 hs ⊢
        have i0' : (0 : Int) ≤ (m : Int) := by omega
        have i1' : (m : Int) < xs.length := by omega
        have j0 : (0 : Int) ≤ (k : Int) := by omega
        have j1 : (k : Int) < xs.length := by omega
        generalize xs.getD k 0 = x at *
        generalize xs.getD m 0 = y at *
        have HM := Lib.hid hm
        have HS := Lib.hid hs
        have HL := Lib.hid hl
        have HO := Lib.hid ho
        have hw : IntKind.i64.wrap ((m : Int) - 1) = (k : Int) := by rw [IntWalk.i64_in _ (by omega)]; omega
        have hw2 : IntKind.i64.wrap (x - y) = x - y := IntWalk.i64_in _ (by omega)
        have hsz := hb.size
        have hl2 := hl
        clear hm hs hl ho
        go_wp2
        go_region_held_law (fun w' => w'.cell? (ad.add k) = some (.int .i64 x) ∧ w'.cell? (ad.add m) = some (.int .i64 y))
          (first
            | go_keep
            | (go_split_ands
               refine ⟨?_, ?_⟩
               · exact ((Below.appended2 ((Below.refl wr.heap.size wr).mono hsz) HO.out hsz hgrow).cell (p := ad.add k) (by rw [block_add]; exact hab)).trans hc1
               · exact ((Below.appended2 ((Below.refl wr.heap.size wr).mono hsz) HO.out hsz hgrow).cell (p := ad.add m) (by rw [block_add]; exact hab)).trans hc2))
          ((refine step_append_lies _ (by rfl) _ _ _ (by rfl) w.heap.size 2 i0 (.int .i64 0) 1 8 Try.underlying32 HF.out.1 HF.out.2.1 HF.out.2.2.1 HF.out.2.2.2 rfl (by decide) _ _ _ (by rfl) ((HO.out.alloc _).drew)
              ⟨wr.heap.size, 0, none⟩ 1 1 [.int .i64 (x - y)] (by rfl) (by rfl) (World.news_of_block (cs := #[.int .i64 (x - y)]) (t := 2) (fr := (0, 0)) (heap_alloc_new wr _)) (by simp [Value.oneCell'])
              (by omega) (le_max (by omega)) (by omega) (by simp; omega) (wr.heap.size + 1) (by simp) ?_; intro gg cap w1 hown1 hgrow hat hlt'))
        go_wp2
        go_roundw
        case rel =>
          have ho' := Own.appended hown1
          rw [HL.out, ← HS.out, HM.out] at ho'
          exact ⟨k + 1, by omega, by have := HM.out; go_num, Below.appended2 hb HO.out hsz hgrow, ho'⟩
        case measure => have := HM.out; simp [intOf]; omega
      · go_wp2
        go_ret2
        obtain rfl : k = xs.length - 1 := by omega
        exact ⟨_, rfl, ho, hb⟩
  · rw [if_neg (by omega)]
    generalize flowsCode xs = q at *
    have HC := Lib.hid HC
    have HN := Lib.hid (Own.nil_ w.heap.size)
    have hq : (q != 0) = true := by simp; omega
    clear hI hT h h'
    go_enter Try.func29, Try.ntmps29
    go_wp2_with fail
    refine HC.out.mono ?_
    rintro e w1 ⟨rfl, hb1⟩
    go_wp2
    go_ret2
    exact ⟨_, rfl, HN.out w1, hb1⟩
theorem fnExactLossesOf_walk {w : World} (A0 : Option Addr) (c0 : Nat) (xs0 : List Int) (I0 : Ints w.heap.size w A0 xs0) (T0 : Fits xs0) (_ : xs0.length ≤ maxLen) :
    Calls Try.prog 8 #[.slice A0 xs0.length c0] w fun e w' => e = .returned (.bool true) ∧ Below w.heap.size w w' := by
  by_cases hn0 : (xs0.length : Int) ≤ 1048576
  rotate_left
  · go_enter Try.func8, Try.ntmps8
    go_wp2
    go_ret
    exact ⟨rfl, Below.refl _ _⟩
  have hR : (lossesF xs0).1.length ≤ 1048576 := lossesF_len xs0 hn0
  have be0 := Below.refl w.heap.size w
  have HT0 := Lib.hid T0
  have HI0 := Lib.hid I0
  clear T0 I0
  go_enter Try.func8, Try.ntmps8
  go_wp2_with fail
  refine (toInt64S_any A0 c0 xs0 w.heap.size _ (by omega) (HI0.out.below be0) be0.size).mono ?_
  rintro e w1 ⟨rfl, ho1, hb1⟩
  have sz1 : w.heap.size ≤ w1.heap.size := hb1.size
  have be1 := be0.trans (hb1.mono be0.size)
  have ko1 := Lib.hid ho1
  clear ho1
  have kb1 := Lib.hid hb1
  clear hb1
  go_wp2_with fail
  refine (LossesOf_s _ _ xs0 _ hn0 (ko1.out).ints HT0.out).mono ?_
  rintro e w2 ⟨v2, rfl, ho2, hb2⟩
  obtain ⟨A_2, c_2, rfl, -, -⟩ := ho2.slice
  have sz2 : w1.heap.size ≤ w2.heap.size := hb2.size
  have be2 := be1.trans (hb2.mono be1.size)
  have ko2 := Lib.hid ho2
  clear ho2
  have kb2 := Lib.hid hb2
  clear hb2
  go_wp2_with fail
  refine (toInt64S_any A0 c0 xs0 w.heap.size _ (by omega) (HI0.out.below be2) be2.size).mono ?_
  rintro e w3 ⟨rfl, ho3, hb3⟩
  have sz3 : w2.heap.size ≤ w3.heap.size := hb3.size
  have be3 := be2.trans (hb3.mono be2.size)
  have ko3 := Lib.hid ho3
  clear ho3
  have kb3 := Lib.hid hb3
  clear hb3
  go_wp2_with fail
  refine (LossesOf_i _ _ xs0 _ hn0 (ko3.out).ints HT0.out).mono ?_
  rintro e w4 ⟨v4, rfl, ho4, hb4⟩
  obtain ⟨A_4, c_4, rfl, -, -⟩ := ho4.slice
  have sz4 : w3.heap.size ≤ w4.heap.size := hb4.size
  have be4 := be3.trans (hb4.mono be3.size)
  have ko4 := Lib.hid ho4
  clear ho4
  have kb4 := Lib.hid hb4
  clear hb4
  go_wp2_with fail
  refine (dB (eqInt64S_yes _ _ _ _ (lossesF xs0).1 _ _ _ (by omega) (ko4.out).ints (((ko2.out).later kb3.out).later kb4.out).ints)).mono ?_
  rintro e w5 ⟨rfl, hb5⟩
  have sz5 : w4.heap.size ≤ w5.heap.size := hb5.size
  have be5 := be4.trans (hb5.mono be4.size)
  have kb5 := Lib.hid hb5
  clear hb5
  go_wp2_with fail
  refine (toInt64S_any A0 c0 xs0 w.heap.size _ (by omega) (HI0.out.below be5) be5.size).mono ?_
  rintro e w6 ⟨rfl, ho6, hb6⟩
  have sz6 : w5.heap.size ≤ w6.heap.size := hb6.size
  have be6 := be5.trans (hb6.mono be5.size)
  have ko6 := Lib.hid ho6
  clear ho6
  have kb6 := Lib.hid hb6
  clear hb6
  go_wp2_with fail
  refine (dB (eqInt64S_yes _ _ _ _ xs0 _ _ _ (by omega) ((((ko3.out).later kb4.out).later kb5.out).later kb6.out).ints (ko6.out).ints)).mono ?_
  rintro e w7 ⟨rfl, hb7⟩
  have sz7 : w6.heap.size ≤ w7.heap.size := hb7.size
  have be7 := be6.trans (hb7.mono be6.size)
  have kb7 := Lib.hid hb7
  clear hb7
  go_wp2_with fail
  refine (markInt64S_own _ _ _ xs0 (1) _ _ (by omega) (by omega) (by omega) rfl (((((ko3.out).later kb4.out).later kb5.out).later kb6.out).later kb7.out)).mono ?_
  rintro e w8 ⟨rfl, hp8, hg8⟩
  have sz8 : w7.heap.size ≤ w8.heap.size := hg8.size
  have be8 : Below w.heap.size w w8 := Own.grew be7 (((((ko3.out).later kb4.out).later kb5.out).later kb6.out).later kb7.out) (by omega) be7.size hg8
  have kp8 := Lib.hid hp8
  clear hp8
  have kg8 := Lib.hid hg8
  clear hg8
  go_wp2_with fail
  refine (dB (eqInt64S_yes _ _ _ _ (lossesF xs0).1 _ _ _ (by omega) (((((ko4.out).later kb5.out).later kb6.out).later kb7.out).kept kg8.out (ko4.out.apart ko3.out (by omega))).ints (((((((ko2.out).later kb3.out).later kb4.out).later kb5.out).later kb6.out).later kb7.out).kept kg8.out (ko2.out.apart ko3.out (by omega))).ints)).mono ?_
  rintro e w9 ⟨rfl, hb9⟩
  have sz9 : w8.heap.size ≤ w9.heap.size := hb9.size
  have be9 := be8.trans (hb9.mono be8.size)
  have kb9 := Lib.hid hb9
  clear hb9
  go_wp2_with fail
  refine (markInt64S_own _ _ _ (lossesF xs0).1 1 _ _ (by omega) (by omega) (by omega) rfl ((((((ko4.out).later kb5.out).later kb6.out).later kb7.out).kept kg8.out (ko4.out.apart ko3.out (by omega))).later kb9.out)).mono ?_
  rintro e w10 ⟨rfl, hp10, hg10⟩
  have sz10 : w9.heap.size ≤ w10.heap.size := hg10.size
  have be10 : Below w.heap.size w w10 := Own.grew be9 ((((((ko4.out).later kb5.out).later kb6.out).later kb7.out).kept kg8.out (ko4.out.apart ko3.out (by omega))).later kb9.out) (by omega) be9.size hg10
  have kp10 := Lib.hid hp10
  clear hp10
  have kg10 := Lib.hid hg10
  clear hg10
  go_wp2_with fail
  refine (sB (heldInt64S_any _ _ (lossesF xs0).1.length 1 _ _ (by omega) (by omega) (by omega) (kp10.out).ints)).mono ?_
  rintro e w11 ⟨rfl, hb11⟩
  have sz11 : w10.heap.size ≤ w11.heap.size := hb11.size
  have be11 := be10.trans (hb11.mono be10.size)
  have kb11 := Lib.hid hb11
  clear hb11
  go_wp2_with fail
  refine (toInt64S_any A0 c0 xs0 w.heap.size _ (by omega) (HI0.out.below be11) be11.size).mono ?_
  rintro e w12 ⟨rfl, ho12, hb12⟩
  have sz12 : w11.heap.size ≤ w12.heap.size := hb12.size
  have be12 := be11.trans (hb12.mono be11.size)
  have ko12 := Lib.hid ho12
  clear ho12
  have kb12 := Lib.hid hb12
  clear hb12
  go_wp2_with fail
  refine (LossesOf_i _ _ xs0 _ hn0 (ko12.out).ints HT0.out).mono ?_
  rintro e w13 ⟨v13, rfl, ho13, hb13⟩
  obtain ⟨A_13, c_13, rfl, -, -⟩ := ho13.slice
  have sz13 : w12.heap.size ≤ w13.heap.size := hb13.size
  have be13 := be12.trans (hb13.mono be12.size)
  have ko13 := Lib.hid ho13
  clear ho13
  have kb13 := Lib.hid hb13
  clear hb13
  go_wp2_with fail
  refine (dB (eqInt64S_yes _ _ _ _ (lossesF xs0).1 _ _ _ (by omega) (ko13.out).ints ((((((((((((ko2.out).later kb3.out).later kb4.out).later kb5.out).later kb6.out).later kb7.out).kept kg8.out (ko2.out.apart ko3.out (by omega))).later kb9.out).kept kg10.out (ko2.out.apart ko4.out (by omega))).later kb11.out).later kb12.out).later kb13.out).ints)).mono ?_
  rintro e w14 ⟨rfl, hb14⟩
  have sz14 : w13.heap.size ≤ w14.heap.size := hb14.size
  have be14 := be13.trans (hb14.mono be13.size)
  have kb14 := Lib.hid hb14
  clear hb14
  go_wp2_with fail
  refine (sB (heldInt64S_any _ _ (lossesF xs0).1.length 1 _ _ (by omega) (by omega) (by omega) (((((kp10.out).later kb11.out).later kb12.out).later kb13.out).later kb14.out).ints)).mono ?_
  rintro e w15 ⟨rfl, hb15⟩
  have sz15 : w14.heap.size ≤ w15.heap.size := hb15.size
  have be15 := be14.trans (hb15.mono be14.size)
  have kb15 := Lib.hid hb15
  clear hb15
  go_wp2_with fail
  go_ret
  exact ⟨rfl, be15⟩
end Go.Proofs.Ytiiidloobfimcaa
