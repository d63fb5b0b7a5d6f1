/- Contracts of functions that take a function: the least number with a property, by halving and in turn; whether an element of a list has a property. The premise on the function is named: what it returns at each number of the range, in every later world. Conditions: the bounds that each theorem names. -/
import Derived.Test.YtlgagnbnjfneaaaBase
import Derived.Test.YtlgagnbnjfneaaaFrame
import Derived.Handy
import Derived.Lib.Hide
import Derived.Deep.LoopGhost
import Derived.Shelf.Abstract
namespace Go.Proofs.Ytlgagnbnjfneaaa
open Go.RowKit
open Pl

/-- What is asked of a function value: at each x from lo to hi, in every later world, it returns p x; it may draw and lay blocks. -/
def Tells (g : FuncId) (cb : Array Value) (lo hi : Int) (p : Int → Bool) (w : World) : Prop :=
  ∀ (W : World) (x : Int), Below w.heap.size w W → lo ≤ x → x ≤ hi → Calls Try.prog g (#[.int .i64 x] ++ cb) W fun e w' => e = .returned (.bool (p x)) ∧ Below W.heap.size W w'

theorem ret_ib {a b : Int} {p q : Bool} (h1 : a = b) (h2 : p = q) : Ending.returned (.tuple #[.int .i64 a, .bool p]) = .returned (.tuple #[.int .i64 b, .bool q]) := by rw [h1, h2]

theorem Search_any (g : FuncId) (cb : Array Value) (eg : ∀ args w, (callFunc g args).run Try.prog w = .ok (.enter g args) w) (n k : Nat) (hn : n ≤ 4611686018427387904) (hk : k ≤ n) (w : World)
    (hf : ∀ (W : World) (i : Nat), Below w.heap.size w W → i < n → Calls Try.prog g (#[.int .i64 i] ++ cb) W fun e w' => e = .returned (.bool (decide (k ≤ i))) ∧ Below W.heap.size W w') :
    Calls Try.prog 104 #[.int .i64 n, .func (.func g) #[] cb] w fun e w' => e = .returned (.int .i64 k) ∧ Below w.heap.size w w' := by
  have HF := Lib.hid hf
  clear hf
  go_enter Try.func104, Try.ntmps104
  go_wp2
  go_loopg [5, 6] n (fun kx s5 s6 wr => ∃ lo hi : Nat, s5 = .int .i64 lo ∧ s6 = .int .i64 hi ∧ lo ≤ k ∧ k ≤ hi ∧ hi ≤ n ∧ hi - lo ≤ kx ∧ Below w.heap.size w wr)
  case atStart => exact ⟨0, n, rfl, rfl, by omega, by omega, by omega, by omega, Below.refl _ _⟩
  case round =>
    obtain ⟨lo, hi, rfl, rfl, h1, h2, h3, h4, hb⟩ := hrel
    by_cases hlt : lo < hi
    · have hc := HF.out _ ((lo + hi) / 2) hb (by omega)
      rw [show (((lo + hi) / 2 : Nat) : Int) = ((lo : Int) + (hi : Int)) / 2 by omega] at hc
      by_cases hp : k ≤ (lo + hi) / 2
      · rw [decide_eq_true hp] at hc
        have HP := Lib.hid hp
        have HC := Lib.hid hc
        clear hp hc
        go_wp2_with (go_at_fn g; refine HC.out.mono ?_; rintro e w' ⟨rfl, hb2⟩)
        go_roundg ((lo + hi) / 2 - lo)
        case measure => omega
        case rel =>
          have := HP.out
          exact ⟨lo, (lo + hi) / 2, rfl, by rw [show ((lo : Int) + (hi : Int)) / 2 = (((lo + hi) / 2 : Nat) : Int) by omega], by omega, by omega, by omega, by omega, hb.trans (hb2.mono hb.size)⟩
      · rw [decide_eq_false hp] at hc
        have HP := Lib.hid hp
        have HC := Lib.hid hc
        clear hp hc
        go_wp2_with (go_at_fn g; refine HC.out.mono ?_; rintro e w' ⟨rfl, hb2⟩)
        go_roundg (hi - ((lo + hi) / 2 + 1))
        case measure => omega
        case rel =>
          have := HP.out
          exact ⟨(lo + hi) / 2 + 1, hi, by rw [show ((lo : Int) + (hi : Int)) / 2 + 1 = (((lo + hi) / 2 + 1 : Nat) : Int) by omega], rfl, by omega, by omega, by omega, by omega, hb.trans (hb2.mono hb.size)⟩
    · obtain rfl : hi = lo := by omega
      obtain rfl : k = hi := by omega
      go_wp2
      go_ret
      exact ⟨rfl, hb⟩
theorem orNotFound_yes (n : Int) (w : World) : Calls Try.prog 63 #[.int .i64 n, .bool true] w fun e w' => e = .returned (.tuple #[.int .i64 n, .int .i64 0]) ∧ w = w' := by
  go_enter Try.func63, Try.ntmps63
  go_wp2
  go_ret2
  exact ⟨rfl, rfl⟩
theorem orNotFound_no (n : Int) (w : World) : Calls Try.prog 63 #[.int .i64 n, .bool false] w fun e w' => e = .returned (.tuple #[.int .i64 0, .int .i64 3]) ∧ w = w' := by
  go_enter Try.func63, Try.ntmps63
  go_wp2
  go_ret2
  exact ⟨rfl, rfl⟩
theorem orNotFound_any (n : Int) (b : Bool) (w : World) : Calls Try.prog 63 #[.int .i64 n, .bool b] w fun e w' => e = .returned (.tuple #[.int .i64 (cond b n 0), .int .i64 (cond b 0 3)]) ∧ w = w' := by
  cases b
  · exact orNotFound_no n w
  · exact orNotFound_yes n w
theorem firstIn1_any (g : FuncId) (cb : Array Value) (eg : ∀ args w, (callFunc g args).run Try.prog w = .ok (.enter g args) w) (lo hi k : Int) (hlo : -1000000000000 ≤ lo) (hhi : hi ≤ 1000000000000) (w0 w : World) (h0 : Below w0.heap.size w0 w)
    (hf : Tells g cb lo hi (fun x => decide (k ≤ x)) w0) (bf bl : Nat) (hcf : w.cell? ⟨bf, 0, none⟩ = some (.func (.func g) #[] cb)) (hcl : w.cell? ⟨bl, 0, none⟩ = some (.int .i64 lo)) (i : Nat) (hi2 : lo + i ≤ hi) :
    Calls Try.prog 105 #[.int .i64 i, .pointer (some ⟨bf, 0, none⟩), .pointer (some ⟨bl, 0, none⟩)] w fun e w' => e = .returned (.bool (decide (k ≤ lo + i))) ∧ Below w.heap.size w w' := by
  have HF := Lib.hid hf
  clear hf
  go_enter Try.func105, Try.ntmps105
  go_wp2_with (go_at_fn g; refine (HF.out _ _ h0 (by omega) (by omega)).mono ?_; rintro e w' ⟨rfl, hb2⟩)
  go_ret
  exact ⟨rfl, hb2⟩
theorem firstIn_any (g : FuncId) (cb : Array Value) (eg : ∀ args w, (callFunc g args).run Try.prog w = .ok (.enter g args) w) (lo hi k : Int) (hlo : -1000000000000 ≤ lo) (hhi : hi ≤ 1000000000000) (hk1 : lo ≤ k) (hk2 : k ≤ hi + 1) (w : World)
    (hf : Tells g cb lo hi (fun x => decide (k ≤ x)) w) :
    Calls Try.prog 64 #[.int .i64 lo, .int .i64 hi, .func (.func g) #[] cb] w fun e w' => e = .returned (.tuple #[.int .i64 k, .bool (decide (k ≤ hi))]) ∧ Below w.heap.size w w' := by
  have HF := Lib.hid hf
  clear hf
  go_enter Try.func64, Try.ntmps64
  have hk3 : ((k - lo).toNat : Int) = k - lo := by omega
  have hn3 : ((hi - lo + 1).toNat : Int) = hi - lo + 1 := by omega
  have HK := Lib.hid hk3
  have HN := Lib.hid hn3
  clear hk3 hn3
  go_wp2_with fail
  rw [← HN.out]
  refine (Search_any 105 _ (enters_of Try.func105 (by kernel_rfl) rfl) (hi - lo + 1).toNat (k - lo).toNat (by omega) (by omega) _ ?_).mono ?_
  · intro W i hb hi2
    have e : decide ((k - lo).toNat ≤ i) = decide (k ≤ lo + i) := decide_eq_decide.2 (by omega)
    rw [e]
    have hb0 : Below w.heap.size w W := (((Below.refl w.heap.size w).alloc (Nat.le_refl _) _).alloc (by simp) _).trans (hb.mono (by simp; omega))
    obtain ⟨hc, _⟩ := bcell hb
    exact firstIn1_any g cb eg lo hi k hlo hhi w W hb0 HF.out (w.heap.size + 1) w.heap.size ((hc _ _ (by simp)).trans (box2 _ _ _ _ _).2) ((hc _ _ (by simp only [World.size_alloc]; omega)).trans (box2 _ _ _ _ _).1) i (by omega)
  · rintro e w' ⟨rfl, hb⟩
    rw [HK.out, HN.out]
    obtain ⟨hc, hf⟩ := bcell hb
    have hsz : w.heap.size + 1 < w'.heap.size := by have := hb.size; simp at this; omega
    go_wp2
    go_ret2
    refine ⟨?_, (((Below.refl w.heap.size w).alloc (Nat.le_refl _) _).alloc (by simp) _).trans (hb.mono (by simp; omega))⟩
    exact ret_ib (by omega) (decide_eq_decide.2 (by omega))
/-- Whether an element of a list has a property: the first that has it is at place k, or none has. -/
theorem IndexFunc_any (g : FuncId) (cb : Array Value) (eg : ∀ args w, (callFunc g args).run Try.prog w = .ok (.enter g args) w) (A : Option Addr) (c : Nat) (xs : List Int) (B k : Nat) (p : Int → Bool) (w : World) (hn : (xs.length : Int) ≤ 1099511627776) (hI : Ints B w A xs) (hB : B ≤ w.heap.size) (hfit : Fits xs)
    (hf : Tells g cb (-9223372036854775808) 9223372036854775807 p w) (hk : k ≤ xs.length) (h1 : ∀ j (h : j < xs.length), j < k → p xs[j] = false) (h2 : ∀ h : k < xs.length, p xs[k] = true) :
    Calls Try.prog 165 #[.slice A xs.length c, .func (.func g) #[] cb] w fun e w' => e = .returned (.int .i64 (if k < xs.length then (k : Int) else -1)) ∧ Below w.heap.size w w' := by
  have HF := Lib.hid hf
  have H1 := Lib.hid h1
  have H2 := Lib.hid h2
  have HI := Lib.hid hI
  have HT := Lib.hid hfit
  clear hf h1 h2 hI hfit
  go_enter Try.func165, Try.ntmps165
  go_wp2
  go_loopw [8] (fun i wr => ∃ j : Nat, j ≤ k ∧ i = .int .i64 j ∧ Below w.heap.size w wr) (fun i _ => xs.length - (intOf i).toNat)
  case atStart => exact ⟨0, Nat.zero_le _, rfl, Below.refl _ _⟩
  case round =>
    obtain ⟨j, hj, rfl, hb⟩ := hrel
    by_cases hlt : j < k
    · obtain ⟨ad, rfl, hab, hc0⟩ := HI.out.at_ (k := j) (by omega)
      have hcell := (hb.cell (p := ad.add j) (by rw [block_add]; omega)).trans hc0
      obtain ⟨f1, f2⟩ := HT.out xs[j] (List.getElem_mem _)
      have hc := HF.out wr xs[j] hb f1 f2
      rw [H1.out j (by omega) hlt] at hc
      generalize xs[j]'(by omega) = x at *
      have HC := Lib.hid hc
      clear hc hc0
      go_wp2_with (go_at_fn g; refine HC.out.mono ?_; rintro e w' ⟨rfl, hb2⟩)
      go_roundw
      case rel => exact ⟨j + 1, by omega, by go_num, hb.trans (hb2.mono hb.size)⟩
      case measure => simp [intOf]; omega
    · obtain rfl : j = k := by omega
      by_cases hh : j < xs.length
      · obtain ⟨ad, rfl, hab, hc0⟩ := HI.out.at_ (k := j) hh
        have hcell := (hb.cell (p := ad.add j) (by rw [block_add]; omega)).trans hc0
        obtain ⟨f1, f2⟩ := HT.out xs[j] (List.getElem_mem _)
        have hc := HF.out wr xs[j] hb f1 f2
        rw [H2.out hh] at hc
        generalize xs[j] = x at *
        have HC := Lib.hid hc
        clear hc hc0
        go_wp2_with (go_at_fn g; refine HC.out.mono ?_; rintro e w' ⟨rfl, hb2⟩)
        go_ret
        exact ⟨rfl, hb.trans (hb2.mono hb.size)⟩
      · go_wp2
        go_ret
        exact ⟨rfl, hb⟩
theorem first_such (p : Int → Bool) (xs : List Int) : ∃ k, k ≤ xs.length ∧ (∀ j (h : j < xs.length), j < k → p xs[j] = false) ∧ (∀ h : k < xs.length, p xs[k] = true) ∧ (xs.any p = decide (k < xs.length)) := by
  induction xs with
  | nil => exact ⟨0, by simp, by simp, by simp, by simp⟩
  | cons x xs ih =>
    cases hp : p x
    · obtain ⟨k, h1, h2, h3, h4⟩ := ih
      refine ⟨k + 1, by simpa using h1, ?_, ?_, ?_⟩
      · intro j h hj
        cases j with
        | zero => exact hp
        | succ j => exact h2 j (by simpa using h) (by omega)
      · intro h
        exact h3 (by simpa using h)
      · rw [List.any_cons, hp, h4]; simp
    · exact ⟨0, by simp, by intro j h hj; omega, fun _ => hp, by simp [hp]⟩
theorem ContainsFunc_any (g : FuncId) (cb : Array Value) (eg : ∀ args w, (callFunc g args).run Try.prog w = .ok (.enter g args) w) (A : Option Addr) (c : Nat) (xs : List Int) (B : Nat) (p : Int → Bool) (w : World) (hn : (xs.length : Int) ≤ 1099511627776) (hI : Ints B w A xs) (hB : B ≤ w.heap.size) (hfit : Fits xs)
    (hf : Tells g cb (-9223372036854775808) 9223372036854775807 p w) :
    Calls Try.prog 144 #[.slice A xs.length c, .func (.func g) #[] cb] w fun e w' => e = .returned (.bool (xs.any p)) ∧ Below w.heap.size w w' := by
  obtain ⟨k, hk, h1, h2, h3⟩ := first_such p xs
  rw [h3]
  have HX := Lib.hid (IndexFunc_any g cb eg A c xs B k p w hn hI hB hfit hf hk h1 h2)
  clear h1 h2 h3 hf hI hfit
  by_cases hh : k < xs.length
  · rw [if_pos hh] at HX
    go_enter Try.func144, Try.ntmps144
    go_wp2_with (go_at_call 165; refine HX.out.mono ?_; rintro e w' ⟨rfl, hb⟩)
    go_ret
    exact ⟨by simp [hh], hb⟩
  · rw [if_neg hh] at HX
    go_enter Try.func144, Try.ntmps144
    go_wp2_with (go_at_call 165; refine HX.out.mono ?_; rintro e w' ⟨rfl, hb⟩)
    go_ret
    exact ⟨by simp [hh], hb⟩
/-- All numbers of a list lie in a range. -/
def allIn (xs : List Int) (lo hi : Int) : Bool := xs.all fun x => inB x lo hi
theorem allIn_iff {xs : List Int} {lo hi : Int} : allIn xs lo hi = true ↔ ∀ x ∈ xs, lo ≤ x ∧ x ≤ hi := by unfold allIn; rw [List.all_eq_true]; exact ⟨fun h x hx => inB_iff.1 (h x hx), fun h x hx => inB_iff.2 (h x hx)⟩
theorem range_split (xs : List Int) (lo hi : Int) :
    (allIn xs lo hi = true ∧ ∀ k (h : k < xs.length), inB xs[k] lo hi = true) ∨
    (allIn xs lo hi = false ∧ ∃ b, ∃ hb : b < xs.length, inB xs[b] lo hi = false ∧ ∀ k (h : k < b), inB (xs[k]'(Nat.lt_trans h hb)) lo hi = true) := by
  obtain ⟨k, h1, h2, h3, h4⟩ := first_such (fun x => !inB x lo hi) xs
  have e : allIn xs lo hi = !(xs.any fun x => !inB x lo hi) := by unfold allIn; rw [List.not_any_eq_all_not]; simp
  rw [e, h4]
  by_cases hk : k < xs.length
  · right
    refine ⟨by simp [hk], k, hk, by simpa using h3 hk, fun j hj => ?_⟩
    simpa using h2 j (Nat.lt_trans hj hk) hj
  · left
    refine ⟨by simp [hk], fun j hj => ?_⟩
    simpa using h2 j hj (by omega)
theorem allWithin_any (A : Option Addr) (c : Nat) (xs : List Int) (lo hi : Int) (B : Nat) (w : World) (hn : (xs.length : Int) ≤ 1099511627776) (hI : Ints B w A xs) (hB : B ≤ w.heap.size) (hfit : Fits xs) :
    Calls Try.prog 93 #[.slice A xs.length c, .int .i64 lo, .int .i64 hi] w fun e w' => e = .returned (.bool (allIn xs lo hi)) ∧ Below w.heap.size w w' := by
  have e : allIn xs lo hi = !(xs.any fun x => !inB x lo hi) := by unfold allIn; rw [List.not_any_eq_all_not]; simp
  rw [e]
  clear e
  have HI := Lib.hid hI
  have HT := Lib.hid hfit
  clear hI hfit
  go_enter Try.func93, Try.ntmps93
  go_wp2_with fail
  have hb0 : Below w.heap.size w ((w.alloc (.cells #[.int .i64 lo] 2)).alloc (.cells #[.int .i64 hi] 2)) := ((Below.refl w.heap.size w).alloc (Nat.le_refl _) _).alloc (by simp) _
  refine (ContainsFunc_any 145 _ (enters_of Try.func145 (by kernel_rfl) rfl) A c xs w.heap.size (fun x => !inB x lo hi) _ hn (HI.out.more hB |>.below hb0) (by simp only [World.size_alloc]; omega) HT.out ?_).mono ?_
  · intro W x hb _ _
    obtain ⟨hc, _⟩ := bcell hb
    have c0 := (hc _ _ (by simp only [World.size_alloc]; omega)).trans (box2 w (.int .i64 lo) (.int .i64 hi) 2 2).1
    have c1 := (hc _ _ (by simp)).trans (box2 w (.int .i64 lo) (.int .i64 hi) 2 2).2
    clear hc
    show Calls _ _ #[.int .i64 x, .pointer (some ⟨w.heap.size, 0, none⟩), .pointer (some ⟨w.heap.size + 1, 0, none⟩)] _ _
    go_enter Try.func145, Try.ntmps145
    go_wp2_with (go_at_call 54; refine (within_any _ _ _ _).mono ?_; rintro e w' ⟨rfl, rfl⟩)
    go_ret
    exact ⟨rfl, Below.refl _ _⟩
  · rintro e w' ⟨rfl, hb⟩
    go_wp2
    go_ret
    exact ⟨rfl, hb0.trans (hb.mono (by simp; omega))⟩
end Go.Proofs.Ytlgagnbnjfneaaa
