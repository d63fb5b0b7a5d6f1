/- Whether an element of a list of fans, of doors has a property of its airway. Conditions: the facts on memory and on lengths that each theorem names. Printed by gen_hofr.py. -/
import Derived.Test.YtlgagnbnjfneaaaFansV
import Derived.Test.YtlgagnbnjfneaaaDoors
namespace Go.Proofs.Ytlgagnbnjfneaaa
open Go.RowKit
open Pl
theorem any_stop {α : Type} (P : α → Bool) : ∀ (xs : List α) (z : α), ∃ m, m ≤ xs.length ∧ (∀ k, k < m → P (xs.getD k z) = false) ∧ (m < xs.length → P (xs.getD m z) = true) ∧ xs.any P = decide (m < xs.length)
  | [], z => ⟨0, Nat.le_refl _, fun _ h => absurd h (by omega), fun h => absurd h (by simp), by simp⟩
  | x :: xs, z => by
    cases hp : P x
    · obtain ⟨m, h1, h2, h3, h4⟩ := any_stop P xs z
      refine ⟨m + 1, by simpa using h1, fun k hk => ?_, fun h => ?_, ?_⟩
      · cases k with
        | zero => exact hp
        | succ k => exact h2 k (by omega)
      · exact h3 (by simpa using h)
      · rw [List.any_cons, hp, h4]; simp
    · exact ⟨0, Nat.zero_le _, fun _ h => absurd h (by omega), fun _ => hp, by simp [hp]⟩
/-- A function value tells of each element, by its airway. -/
def TellsF (g : FuncId) (cb : Array Value) (p : Int → Bool) (w : World) : Prop := ∀ (s : ByteArray) (a : Int) (A' : Option Addr) (n c' : Nat) W, Below w.heap.size w W → Calls Try.prog g (#[.agg #[.string s, .int .i64 a, .slice A' n c']] ++ cb) W fun e w' => e = .returned (.bool (p a)) ∧ Below W.heap.size W w'
set_option maxRecDepth 100000 in
theorem IndexFuncF_any (g : FuncId) (cb : Array Value) (eg : ∀ args w, (callFunc g args).run Try.prog w = .ok (.enter g args) w) (A : Option Addr) (c m : Nat) (xs : List Fa) (B : Nat) (p : Int → Bool) (w : World) (hn : (xs.length : Int) ≤ 1099511627776) (hI : Fns B w A xs) (hB : B ≤ w.heap.size) (hf : TellsF g cb p w) (_ : m ≤ xs.length) (h1 : ∀ k, k < m → p (xs.getD k nFa).aw = false) (h2 : m < xs.length → p (xs.getD m nFa).aw = true) :
    Calls Try.prog 161 #[.slice A xs.length c, .func (.func g) #[] cb] w fun e w' => e = .returned (.int .i64 (if m < xs.length then (m : Int) else -1)) ∧ Below w.heap.size w w' := by
  have H1 := Lib.hid h1
  have H2 := Lib.hid h2
  have J := Lib.hid (hI.more hB)
  have HF := Lib.hid hf
  clear h1 h2 hI hf
  obtain ⟨R, hR⟩ : ∃ R : Int, R = if m < xs.length then (m : Int) else -1 := ⟨_, rfl⟩
  rw [← hR]
  have HR := Lib.hid hR
  clear hR
  go_enter Try.func161, Try.ntmps161
  go_wp2
  go_loopw [8] (fun i wr => ∃ k : Nat, k ≤ m ∧ i = .int .i64 k ∧ Below w.heap.size w wr) (fun i _ => xs.length - (intOf i).toNat)
  case atStart => exact ⟨0, Nat.zero_le _, rfl, Below.refl _ _⟩
  case round =>
    obtain ⟨k, hk, rfl, hb⟩ := hrel
    by_cases hlt : k < xs.length
    · obtain ⟨⟨s, a, cv⟩, hx⟩ : ∃ x, xs.getD k nFa = x := ⟨_, rfl⟩
      obtain ⟨b, o, A', c', rfl, hab, c0, c1, c2, -⟩ := (J.out.below hb).at_ hlt hx
      have hc := HF.out s a A' cv.length c' wr hb
      have i0 : (0 : Int) ≤ (k : Int) := by omega
      have i1 : (k : Int) < xs.length := by omega
      by_cases hb' : k < m
      · have hp : p a = false := by have := H1.out k hb'; rw [hx] at this; exact this
        rw [hp] at hc
        have HQ := Lib.hid hc
        clear hp hc hx
        go_wp2_with (go_at_fn g; refine HQ.out.mono ?_; rintro e w' ⟨rfl, hb2⟩)
        go_roundw
        case rel => exact ⟨k + 1, by omega, by go_num, hb.trans (hb2.mono hb.size)⟩
        case measure => simp [intOf]; omega
      · obtain rfl : m = k := by omega
        have hp : p a = true := by have := H2.out hlt; rw [hx] at this; exact this
        rw [hp] at hc
        have HQ := Lib.hid hc
        clear hp hc hx
        go_wp2_with (go_at_fn g; refine HQ.out.mono ?_; rintro e w' ⟨rfl, hb2⟩)
        go_ret
        exact ⟨ret_int (by rw [HR.out, if_pos hlt]), hb.trans (hb2.mono hb.size)⟩
    · go_wp2
      go_ret
      exact ⟨ret_int (by rw [HR.out, if_neg (by omega)]), hb⟩
theorem ContainsFuncF_any (g : FuncId) (cb : Array Value) (eg : ∀ args w, (callFunc g args).run Try.prog w = .ok (.enter g args) w) (A : Option Addr) (c : Nat) (xs : List Fa) (B : Nat) (p : Int → Bool) (w : World) (hn : (xs.length : Int) ≤ 1099511627776) (hI : Fns B w A xs) (hB : B ≤ w.heap.size) (hf : TellsF g cb p w) :
    Calls Try.prog 136 #[.slice A xs.length c, .func (.func g) #[] cb] w fun e w' => e = .returned (.bool (xs.any fun x => p x.aw)) ∧ Below w.heap.size w w' := by
  obtain ⟨m, m1, m2, m3, m4⟩ := any_stop (fun x : Fa => p x.aw) xs nFa
  have HX := Lib.hid (IndexFuncF_any g cb eg A c m xs B p w hn hI hB hf m1 m2 m3)
  rw [m4]
  clear m2 m3 m4 hI hf
  by_cases hh : m < xs.length
  · rw [if_pos hh] at HX
    have HD := Lib.hid (decide_eq_true hh)
    go_enter Try.func136, Try.ntmps136
    go_wp2_with (go_at_call 161; refine HX.out.mono ?_; rintro e w' ⟨rfl, hb⟩)
    go_ret
    exact ⟨ret_bool (by rw [HD.out]), hb⟩
  · rw [if_neg hh] at HX
    have HD := Lib.hid (decide_eq_false hh)
    go_enter Try.func136, Try.ntmps136
    go_wp2_with (go_at_call 161; refine HX.out.mono ?_; rintro e w' ⟨rfl, hb⟩)
    go_ret
    exact ⟨ret_bool (by rw [HD.out]), hb⟩
/-- A function value tells of each element, by its airway. -/
def TellsD (g : FuncId) (cb : Array Value) (p : Int → Bool) (w : World) : Prop := ∀ (s : ByteArray) (a u v : Int) W, Below w.heap.size w W → Calls Try.prog g (#[.agg #[.string s, .int .i64 a, .int .i64 u, .int .i64 v]] ++ cb) W fun e w' => e = .returned (.bool (p a)) ∧ Below W.heap.size W w'
set_option maxRecDepth 100000 in
theorem IndexFuncD_any (g : FuncId) (cb : Array Value) (eg : ∀ args w, (callFunc g args).run Try.prog w = .ok (.enter g args) w) (A : Option Addr) (c m : Nat) (xs : List Do) (B : Nat) (p : Int → Bool) (w : World) (hn : (xs.length : Int) ≤ 1099511627776) (hI : Recs encDo 4 B w A xs) (hB : B ≤ w.heap.size) (hf : TellsD g cb p w) (_ : m ≤ xs.length) (h1 : ∀ k, k < m → p (xs.getD k nDo).i0 = false) (h2 : m < xs.length → p (xs.getD m nDo).i0 = true) :
    Calls Try.prog 159 #[.slice A xs.length c, .func (.func g) #[] cb] w fun e w' => e = .returned (.int .i64 (if m < xs.length then (m : Int) else -1)) ∧ Below w.heap.size w w' := by
  have H1 := Lib.hid h1
  have H2 := Lib.hid h2
  have J := Lib.hid (hI.more hB)
  have HF := Lib.hid hf
  clear h1 h2 hI hf
  obtain ⟨R, hR⟩ : ∃ R : Int, R = if m < xs.length then (m : Int) else -1 := ⟨_, rfl⟩
  rw [← hR]
  have HR := Lib.hid hR
  clear hR
  go_enter Try.func159, Try.ntmps159
  go_wp2
  go_loopw [8] (fun i wr => ∃ k : Nat, k ≤ m ∧ i = .int .i64 k ∧ Below w.heap.size w wr) (fun i _ => xs.length - (intOf i).toNat)
  case atStart => exact ⟨0, Nat.zero_le _, rfl, Below.refl _ _⟩
  case round =>
    obtain ⟨k, hk, rfl, hb⟩ := hrel
    by_cases hlt : k < xs.length
    · obtain ⟨⟨s, a, u, v⟩, hx⟩ : ∃ x, xs.getD k nDo = x := ⟨_, rfl⟩
      obtain ⟨b, o, rfl, hab, c0, c1, c2, c3⟩ := (J.out.below hb).cellsDo hlt hx
      have hc := HF.out s a u v wr hb
      have i0 : (0 : Int) ≤ (k : Int) := by omega
      have i1 : (k : Int) < xs.length := by omega
      by_cases hb' : k < m
      · have hp : p a = false := by have := H1.out k hb'; rw [hx] at this; exact this
        rw [hp] at hc
        have HQ := Lib.hid hc
        clear hp hc hx
        go_wp2_with (go_at_fn g; refine HQ.out.mono ?_; rintro e w' ⟨rfl, hb2⟩)
        go_roundw
        case rel => exact ⟨k + 1, by omega, by go_num, hb.trans (hb2.mono hb.size)⟩
        case measure => simp [intOf]; omega
      · obtain rfl : m = k := by omega
        have hp : p a = true := by have := H2.out hlt; rw [hx] at this; exact this
        rw [hp] at hc
        have HQ := Lib.hid hc
        clear hp hc hx
        go_wp2_with (go_at_fn g; refine HQ.out.mono ?_; rintro e w' ⟨rfl, hb2⟩)
        go_ret
        exact ⟨ret_int (by rw [HR.out, if_pos hlt]), hb.trans (hb2.mono hb.size)⟩
    · go_wp2
      go_ret
      exact ⟨ret_int (by rw [HR.out, if_neg (by omega)]), hb⟩
theorem ContainsFuncD_any (g : FuncId) (cb : Array Value) (eg : ∀ args w, (callFunc g args).run Try.prog w = .ok (.enter g args) w) (A : Option Addr) (c : Nat) (xs : List Do) (B : Nat) (p : Int → Bool) (w : World) (hn : (xs.length : Int) ≤ 1099511627776) (hI : Recs encDo 4 B w A xs) (hB : B ≤ w.heap.size) (hf : TellsD g cb p w) :
    Calls Try.prog 132 #[.slice A xs.length c, .func (.func g) #[] cb] w fun e w' => e = .returned (.bool (xs.any fun x => p x.i0)) ∧ Below w.heap.size w w' := by
  obtain ⟨m, m1, m2, m3, m4⟩ := any_stop (fun x : Do => p x.i0) xs nDo
  have HX := Lib.hid (IndexFuncD_any g cb eg A c m xs B p w hn hI hB hf m1 m2 m3)
  rw [m4]
  clear m2 m3 m4 hI hf
  by_cases hh : m < xs.length
  · rw [if_pos hh] at HX
    have HD := Lib.hid (decide_eq_true hh)
    go_enter Try.func132, Try.ntmps132
    go_wp2_with (go_at_call 159; refine HX.out.mono ?_; rintro e w' ⟨rfl, hb⟩)
    go_ret
    exact ⟨ret_bool (by rw [HD.out]), hb⟩
  · rw [if_neg hh] at HX
    have HD := Lib.hid (decide_eq_false hh)
    go_enter Try.func132, Try.ntmps132
    go_wp2_with (go_at_call 159; refine HX.out.mono ?_; rintro e w' ⟨rfl, hb⟩)
    go_ret
    exact ⟨ret_bool (by rw [HD.out]), hb⟩
end Go.Proofs.Ytlgagnbnjfneaaa
