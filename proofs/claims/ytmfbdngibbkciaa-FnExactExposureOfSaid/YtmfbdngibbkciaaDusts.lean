/- Lists of tasks that make dust: copies, comparison, sizes; when a list is valid, by the program and by the reference. Conditions: the lengths that each theorem names. -/
import Derived.Test.YtmfbdngibbkciaaStru
import Derived.Test.YtmfbdngibbkciaaLater
import Derived.Test.YtmfbdngibbkciaaUp
namespace Go.Proofs.Ytmfbdngibbkciaa
open Go.RowKit
open Pl
theorem szDustingS_yes (A : Option Addr) (c n : Nat) (left : Int) (w : World) (h0 : left ≤ 1048576) (h : (n : Int) ≤ left) :
    Calls Try.prog 17 #[.slice A n c, .int .i64 left] w fun e w' => e = .returned (.int .i64 (left - n)) ∧ w = w' := by
  go_enter Try.func17, Try.ntmps17
  go_wp2
  go_ret
  exact ⟨rfl, rfl⟩
theorem szDustingS_no (A : Option Addr) (c n : Nat) (left : Int) (w : World) (h1 : 0 ≤ left) (h0 : left ≤ 1048576) (hn : n ≤ maxLen) (h : left < (n : Int)) :
    Calls Try.prog 17 #[.slice A n c, .int .i64 left] w fun e w' => e = .returned (.int .i64 (-1)) ∧ w = w' := by
  unfold maxLen at hn
  go_enter Try.func17, Try.ntmps17
  go_wp2
  go_ret
  exact ⟨rfl, rfl⟩
theorem eqDusting_yes (a f u d : Int) (w : World) :
    Calls Try.prog 58 #[.agg #[.int .i64 a, .int .i64 f, .int .i64 u, .int .i64 d], .agg #[.int .i64 a, .int .i64 f, .int .i64 u, .int .i64 d]] w fun e w' => e = .returned (.bool true) ∧ Below w.heap.size w w' := by
  go_enter Try.func58, Try.ntmps58
  go_wp2
  go_ret
  exact ⟨rfl, by go_grown⟩
set_option maxRecDepth 100000 in
theorem eqDustingS_yes (A A' : Option Addr) (c c' : Nat) (xs : List Dg) (B B' : Nat) (w : World) (hn : xs.length ≤ 1099511627776) (hI : Recs encD 4 B w A xs) (hI' : Recs encD 4 B' w A' xs) (hB : B ≤ w.heap.size) (hB' : B' ≤ w.heap.size) :
    Calls Try.prog 21 #[.slice A xs.length c, .slice A' xs.length c'] w fun e w' => e = .returned (.bool true) ∧ Below w.heap.size w w' := by
  have J := Lib.hid (hI.more hB)
  have J' := Lib.hid (hI'.more hB')
  clear hI hI'
  go_enter Try.func21, Try.ntmps21
  go_wp2
  go_loopw [5] (fun i wr => ∃ k : Nat, k ≤ xs.length ∧ i = .int .i64 k ∧ Below w.heap.size w wr) (fun i _ => xs.length - (intOf i).toNat)
  case atStart => exact ⟨0, Nat.zero_le _, rfl, Below.refl _ _⟩
  case round =>
    obtain ⟨k, hk, rfl, hb⟩ := hrel
    by_cases hlt : k < xs.length
    · obtain ⟨b, o, rfl, hab, c0, c1, c2, c3⟩ := (J.out.below hb).cells4 hlt
      obtain ⟨b', o', rfl, hab', d0, d1, d2, d3⟩ := (J'.out.below hb).cells4 hlt
      generalize xs[k] = x at *
      obtain ⟨xa, xf, xu, xd⟩ := x
      have HE := Lib.hid (eqDusting_yes xa xf xu xd)
      have i0 : (0 : Int) ≤ (k : Int) := by omega
      have i1 : (k : Int) < xs.length := by omega
      have e0 := fun L : Later wr => L.cell c0
      have e1 := fun L : Later wr => L.cell c1
      have e2 := fun L : Later wr => L.cell c2
      have e3 := fun L : Later wr => L.cell c3
      have g0 := fun L : Later wr => L.cell d0
      have g1 := fun L : Later wr => L.cell d1
      have g2 := fun L : Later wr => L.cell d2
      have g3 := fun L : Later wr => L.cell d3
      clear c0 c1 c2 c3 d0 d1 d2 d3
      go_wp2
      refine wp_region_later (by kernel_rfl) (by kernel_rfl) ?_
      repeat (go_big_quiet_step ((go_at_call 58; first | (with_reducible exact later_b (HE.out _)) | (with_reducible exact later_d (HE.out _)) | (with_reducible exact later_s (HE.out _)))))
      refine wpQuiet_nil ?_
      intro _ hw'
      obtain ⟨LL, hw''⟩ := hw'
      subst hw''
      clear e0 e1 e2 e3 g0 g1 g2 g3
      have hb2 := hb.trans (LL.below.mono hb.size)
      go_wp2
      go_roundw
      case rel => exact ⟨k + 1, by omega, by go_num, hb2⟩
      case measure => simp [intOf]; omega
    · go_wp2
      go_ret
      exact ⟨rfl, hb⟩
def dOk (d : Dg) : Bool := dustingB d.1 d.2.1 d.2.2.1 d.2.2.2
def dNone : Dg := (0, 0, 0, 0)
/-- A valid list of tasks. -/
def dsB (xs : List Dg) : Bool := decide ((xs.length : Int) ≤ 12) && allUp (fun k => dOk (xs.getD k dNone)) xs.length
theorem getD_ix {α : Type} {xs : List α} {k : Nat} {z : α} (h : k < xs.length) : xs.getD k z = xs[k] := by simp [List.getD, h]
theorem Recs.cellsD {B : Nat} {w : World} {A : Option Addr} {xs : List Dg} (h : Recs encD 4 B w A xs) {k : Nat} (hk : k < xs.length) {a f u d : Int} (e : xs.getD k dNone = (a, f, u, d)) : ∃ b o, A = some ⟨b, o, none⟩ ∧ b < B ∧ w.cell? ⟨b, o + k * 4, none⟩ = some (.int .i64 a) ∧ w.cell? ⟨b, o + k * 4 + 1, none⟩ = some (.int .i64 f) ∧ w.cell? ⟨b, o + k * 4 + 2, none⟩ = some (.int .i64 u) ∧ w.cell? ⟨b, o + k * 4 + 3, none⟩ = some (.int .i64 d) := by
  have := h.cells4 hk
  rw [getD_ix hk] at e
  rw [e] at this
  exact this
theorem validD1_any (a f u d : Int) (w : World) :
    Calls Try.prog 56 #[.agg #[.int .i64 a, .int .i64 f, .int .i64 u, .int .i64 d]] w fun e w' => e = .returned (.bool (!dustingB a f u d)) ∧ Below w.heap.size w w' := by
  have HV := Lib.hid (ValidDusting_i a f u d)
  generalize dustingB a f u d = r at *
  go_enter Try.func56, Try.ntmps56
  go_wp2_with fail
  refine (HV.out _).mono ?_
  rintro e w1 ⟨rfl, hb⟩
  go_wp2
  go_ret
  exact ⟨rfl, ((Below.refl _ _).alloc (Nat.le_refl _) _).trans (hb.mono (by simp))⟩
set_option maxRecDepth 100000 in
theorem IndexFuncD_any (A : Option Addr) (c m : Nat) (xs : List Dg) (B : Nat) (w : World) (hn : (xs.length : Int) ≤ 1099511627776) (hI : Recs encD 4 B w A xs) (hB : B ≤ w.heap.size) (_ : m ≤ xs.length) (h1 : ∀ k, k < m → dOk (xs.getD k dNone) = true) (h2 : m < xs.length → dOk (xs.getD m dNone) = false) :
    Calls Try.prog 97 #[.slice A xs.length c, .func (.func 56) #[] #[]] w fun e w' => e = .returned (.int .i64 (if m < xs.length then (m : Int) else -1)) ∧ Below w.heap.size w w' := by
  have H1 := Lib.hid h1
  have H2 := Lib.hid h2
  have J := Lib.hid (hI.more hB)
  have HV := Lib.hid validD1_any
  have eg : ∀ args w, (callFunc 56 args).run Try.prog w = .ok (.enter 56 args) w := enters_of Try.func56 (by kernel_rfl) rfl
  clear h1 h2 hI
  obtain ⟨R, hR⟩ : ∃ R : Int, R = if m < xs.length then (m : Int) else -1 := ⟨_, rfl⟩
  rw [← hR]
  have HR := Lib.hid hR
  clear hR
  go_enter Try.func97, Try.ntmps97
  go_wp2
  go_loopw [8] (fun i wr => ∃ k : Nat, k ≤ m ∧ i = .int .i64 k ∧ Below w.heap.size w wr) (fun i _ => xs.length - (intOf i).toNat)
  case atStart => exact ⟨0, Nat.zero_le _, rfl, Below.refl _ _⟩
  case round =>
    obtain ⟨k, hk, rfl, hb⟩ := hrel
    by_cases hlt : k < xs.length
    · obtain ⟨⟨a, f, u, d⟩, hx⟩ : ∃ x, xs.getD k dNone = x := ⟨_, rfl⟩
      obtain ⟨b, o, rfl, hab, c0, c1, c2, c3⟩ := (J.out.below hb).cellsD hlt hx
      have HX := Lib.hid hx
      clear hx
      by_cases hb' : k < m
      · have hp : dustingB a f u d = true := by have := H1.out k hb'; rw [HX.out] at this; exact this
        have HQ := Lib.hid (fun W => HV.out a f u d W)
        rw [hp] at HQ
        clear hp
        go_wp2_with (go_at_fn 56; refine (HQ.out _).mono ?_; rintro e w' ⟨rfl, hb2⟩)
        go_roundw
        case rel => exact ⟨k + 1, by omega, by go_num, hb.trans (hb2.mono hb.size)⟩
        case measure => simp [intOf]; omega
      · obtain rfl : m = k := by omega
        have hp : dustingB a f u d = false := by have := H2.out hlt; rw [HX.out] at this; exact this
        have HQ := Lib.hid (fun W => HV.out a f u d W)
        rw [hp] at HQ
        clear hp
        go_wp2_with (go_at_fn 56; refine (HQ.out _).mono ?_; rintro e w' ⟨rfl, hb2⟩)
        go_ret
        exact ⟨ret_int (by rw [HR.out, if_pos hlt]), hb.trans (hb2.mono hb.size)⟩
    · go_wp2
      go_ret
      exact ⟨ret_int (by rw [HR.out, if_neg (by omega)]), hb⟩
theorem ValidDustings_i (A : Option Addr) (c : Nat) (xs : List Dg) (B : Nat) (w : World) (hn : (xs.length : Int) ≤ 1099511627776) (hI : Recs encD 4 B w A xs) (hB : B ≤ w.heap.size) :
    Calls Try.prog 20 #[.slice A xs.length c] w fun e w' => e = .returned (.bool (dsB xs)) ∧ Below w.heap.size w w' := by
  obtain ⟨m, m1, m2, m3⟩ := first_stop (fun k => dOk (xs.getD k dNone)) xs.length
  have HX := Lib.hid (IndexFuncD_any A c m xs B w hn hI hB m1 m2 m3)
  have HU := Lib.hid (allUp_stop m1 m2 m3)
  have HC : Hid (Calls Try.prog 55 #[.slice A xs.length c, .func (.func 56) #[] #[]] w fun e w' => e = .returned (.bool (decide (m < xs.length))) ∧ Below w.heap.size w w') := Lib.hid (by
    clear m2 m3 hI
    by_cases hh : m < xs.length
    · rw [if_pos hh] at HX
      have HD := Lib.hid (decide_eq_true hh)
      go_enter Try.func55, Try.ntmps55
      go_wp2_with (go_at_call 97; refine HX.out.mono ?_; rintro e w' ⟨rfl, hb⟩)
      go_ret
      exact ⟨ret_bool (by rw [HD.out]), hb⟩
    · rw [if_neg hh] at HX
      have HD := Lib.hid (decide_eq_false hh)
      go_enter Try.func55, Try.ntmps55
      go_wp2_with (go_at_call 97; refine HX.out.mono ?_; rintro e w' ⟨rfl, hb⟩)
      go_ret
      exact ⟨ret_bool (by rw [HD.out]), hb⟩)
  obtain ⟨R, hR⟩ : ∃ R, R = dsB xs := ⟨_, rfl⟩
  rw [← hR]
  have HR := Lib.hid hR
  clear m2 m3 hI hR
  by_cases h0 : (xs.length : Int) ≤ 12
  · by_cases hh : m < xs.length
    · rw [decide_eq_true hh] at HC
      have HD : Hid (dsB xs = false) := Lib.hid (by unfold dsB; rw [HU.out, decide_eq_false (show ¬ m = xs.length by omega)]; simp)
      go_enter Try.func20, Try.ntmps20
      go_wp2_with (go_at_call 55; refine HC.out.mono ?_; rintro e w' ⟨rfl, hb⟩)
      go_ret
      exact ⟨ret_bool (by rw [HR.out, HD.out]), hb⟩
    · rw [decide_eq_false hh] at HC
      have HD : Hid (dsB xs = true) := Lib.hid (by unfold dsB; rw [HU.out, decide_eq_true (show m = xs.length by omega), decide_eq_true h0]; simp)
      go_enter Try.func20, Try.ntmps20
      go_wp2_with (go_at_call 55; refine HC.out.mono ?_; rintro e w' ⟨rfl, hb⟩)
      go_ret
      exact ⟨ret_bool (by rw [HR.out, HD.out]), hb⟩
  · have HD : Hid (dsB xs = false) := Lib.hid (by unfold dsB; rw [decide_eq_false h0]; simp)
    go_enter Try.func20, Try.ntmps20
    go_wp2_with fail
    go_ret
    exact ⟨ret_bool (by rw [HR.out, HD.out]), Below.refl _ _⟩
theorem l14Ok_any (A : Option Addr) (c : Nat) (xs : List Dg) (B : Nat) (w : World) (hn : (xs.length : Int) ≤ 1099511627776) (hI : Recs encD 4 B w A xs) (hB : B ≤ w.heap.size) :
    Calls Try.prog 53 #[.slice A xs.length c] w fun e w' => e = .returned (.bool (dsB xs)) ∧ Below w.heap.size w w' := by
  obtain ⟨m, m1, m2, m3⟩ := first_stop (fun k => dOk (xs.getD k dNone)) xs.length
  have HU := Lib.hid (allUp_stop m1 m2 m3)
  have H1 := Lib.hid m2
  have H2 := Lib.hid m3
  have J := Lib.hid (hI.more hB)
  obtain ⟨R, hR⟩ : ∃ R, R = dsB xs := ⟨_, rfl⟩
  rw [← hR]
  have HR := Lib.hid hR
  clear m2 m3 hI hR
  go_enter Try.func53, Try.ntmps53
  go_wp2
  go_loopw [3] (fun i wr => ∃ k : Nat, k ≤ m ∧ i = .int .i64 k ∧ Below w.heap.size w wr) (fun i _ => xs.length - (intOf i).toNat)
  case atStart => exact ⟨0, Nat.zero_le _, rfl, Below.refl _ _⟩
  case round =>
    obtain ⟨k, hk, rfl, hb⟩ := hrel
    by_cases hlt : k < xs.length
    · obtain ⟨⟨a, f, u, d⟩, hx⟩ : ∃ x, xs.getD k dNone = x := ⟨_, rfl⟩
      obtain ⟨b, o, rfl, hab, c0, c1, c2, c3⟩ := (J.out.below hb).cellsD hlt hx
      have HQ := Lib.hid (l14One_any b (o + k * 4) a f u d wr c0 c1 c2 c3)
      have HX := Lib.hid hx
      clear hx
      by_cases hb' : k < m
      · have hp : dustingB a f u d = true := by have := H1.out k hb'; rw [HX.out] at this; exact this
        rw [hp] at HQ
        clear hp
        go_wp2_with (go_at_call 96; refine HQ.out.mono ?_; rintro e w' ⟨rfl, n, rfl⟩)
        go_roundw
        case rel => exact ⟨k + 1, by omega, by go_num, below_drewN hb _⟩
        case measure => simp [intOf]; omega
      · obtain rfl : m = k := by omega
        have hp : dustingB a f u d = false := by have := H2.out hlt; rw [HX.out] at this; exact this
        have HD : Hid (dsB xs = false) := Lib.hid (by unfold dsB; rw [HU.out, decide_eq_false (show ¬ m = xs.length by omega)]; simp)
        rw [hp] at HQ
        clear hp
        go_wp2_with (go_at_call 96; refine HQ.out.mono ?_; rintro e w' ⟨rfl, n, rfl⟩)
        go_ret
        exact ⟨ret_bool (by rw [HR.out, HD.out]), below_drewN hb _⟩
    · have HD : Hid (dsB xs = decide ((xs.length : Int) ≤ 12)) := Lib.hid (by unfold dsB; rw [HU.out, decide_eq_true (show m = xs.length by omega)]; simp)
      by_cases h0 : (xs.length : Int) ≤ 12
      · rw [decide_eq_true h0] at HD
        go_wp2
        go_ret
        exact ⟨ret_bool (by rw [HR.out, HD.out]), hb⟩
      · rw [decide_eq_false h0] at HD
        go_wp2
        go_ret
        exact ⟨ret_bool (by rw [HR.out, HD.out]), hb⟩
end Go.Proofs.Ytmfbdngibbkciaa
