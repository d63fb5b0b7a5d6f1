/- Proved here: the parts RowS, NetA, Bal, NetB, NetC, NetF of the row's proof, joined by a program. Conditions: as each part says. -/
import Derived.Test.YtejkoicgbgoiaaaGreatFj5
import Derived.BigQuiet
/- A row of the call's own: one cell of it read or written. No conditions. -/
namespace Go.Proofs.YtejkoicgbgoiaaaGreat
open Go.RowKit
open Pl
theorem getD_set (d : List Int) (t i : Nat) (x : Int) (ht : t < d.length) : (d.set t x).getD i 0 = if i = t then x else d.getD i 0 := by
  by_cases e : i = t
  · subst e; simp [List.getD, ht]
  · rw [if_neg e]; simp only [List.getD, List.getElem?_set_ne (Ne.symm e)]
theorem Own.row {base : Nat} {w : World} {A : Option Addr} {n c : Nat} {xs : List Int} (h : Own base w (.slice A n c) xs) (hn : 0 < n) (hl : xs.length = n) : ∃ g, A = some ⟨g, 0, none⟩ ∧ base ≤ g ∧ w.ownsRow base 2 1 (.slice (some ⟨g, 0, none⟩) n c) n (vals xs) := by
  rcases h.form with ⟨he, hx⟩ | ⟨g, c', he, hg1, hg2⟩
  · injection he; omega
  · injection he with e1 e2 e3
    subst e1
    refine ⟨g, rfl, hg1, ?_⟩
    unfold Own at h
    rw [hl] at h
    exact h
theorem drewN_row {base n : Nat} {w : World} {T : TypeId} {s : Nat} {v : Value} {ys : List Value} (h : w.ownsRow base T s v n ys) (k : Nat) : (w.drewN k).ownsRow base T s v n ys :=
  World.ownsRow.kept h (row := none) ⟨rfl, rfl, rfl, Nat.le_refl _, fun _ _ _ => rfl⟩ (by cases v.ownBlock <;> simp)
theorem fit_store {base g N T : Nat} {w w1 w2 : World} {c : Nat} {D : List Int} {v : Int} {o : Obj} {n : Nat} (h : w.ownsRow base 2 1 (.slice (some ⟨g, 0, none⟩) N c) N (vals D)) (hb : Below (base) w1 w) (hg : base ≤ g) (hw : w2 = (((w.alloc o).drewN n).setCell ⟨g, T, none⟩ (.int .i64 v))) :
    Below base w1 w2 ∧ w2.ownsRow base 2 1 (.slice (some ⟨g, 0, none⟩) N c) N (vals (D.set T v)) := by
  subst hw
  have hsz : base ≤ w.heap.size := by have := (World.ownsRow.lt h g rfl).2; omega
  refine ⟨(below_drewN (hb.alloc hsz _) n).setCell (by simpa using hg) _, ?_⟩
  obtain ⟨r1, _⟩ := World.ownsRow.stored (drewN_row (World.ownsRow.alloc h o) n) T (.int .i64 v)
  rw [vals_set] at r1
  exact r1
theorem fit_keep {base g N : Nat} {w w1 w2 : World} {c : Nat} {D : List Int} {o : Obj} {n : Nat} (h : w.ownsRow base 2 1 (.slice (some ⟨g, 0, none⟩) N c) N (vals D)) (hb : Below (base) w1 w) (hg : base ≤ g) (hw : w2 = ((w.alloc o).drewN n)) :
    Below base w1 w2 ∧ w2.ownsRow base 2 1 (.slice (some ⟨g, 0, none⟩) N c) N (vals D) := by
  subst hw
  have hsz : base ≤ w.heap.size := by have := (World.ownsRow.lt h g rfl).2; omega
  exact ⟨below_drewN (hb.alloc hsz _) n, drewN_row (World.ownsRow.alloc h o) n⟩
theorem fit_drew {base g N : Nat} {w w1 : World} {c : Nat} {D : List Int} (h : Below base w1 w ∧ w.ownsRow base 2 1 (.slice (some ⟨g, 0, none⟩) N c) N (vals D)) (n : Nat) :
    Below base w1 (w.drewN n) ∧ (w.drewN n).ownsRow base 2 1 (.slice (some ⟨g, 0, none⟩) N c) N (vals D) := ⟨below_drewN h.1 n, drewN_row h.2 n⟩
theorem fit_set {base g N : Nat} {w w1 : World} {c : Nat} {D : List Int} (h : Below base w1 w ∧ w.ownsRow base 2 1 (.slice (some ⟨g, 0, none⟩) N c) N (vals D)) (hg : base ≤ g) (T : Nat) (v : Int) :
    Below base w1 (w.setCell ⟨g, T, none⟩ (.int .i64 v)) ∧ (w.setCell ⟨g, T, none⟩ (.int .i64 v)).ownsRow base 2 1 (.slice (some ⟨g, 0, none⟩) N c) N (vals (D.set T v)) := by
  obtain ⟨r1, _⟩ := World.ownsRow.stored h.2 T (.int .i64 v)
  rw [vals_set] at r1
  exact ⟨h.1.setCell (by simpa using hg) _, r1⟩
theorem Own.of_row {b base g n c : Nat} {w : World} {D : List Int} (h : w.ownsRow base 2 1 (.slice (some ⟨g, 0, none⟩) n c) n (vals D)) (hl : D.length = n) (hb : b ≤ g) : Own b w (.slice (some ⟨g, 0, none⟩) n c) D := by
  refine Own.base (b := base) (by unfold Own; rw [hl]; exact h) (fun g' h' => ?_)
  have e : some g = some g' := h'
  injection e with e
  omega
theorem ret_vb {v : Value} {a b : Bool} (h : a = b) : Ending.returned (.tuple #[v, .bool a]) = .returned (.tuple #[v, .bool b]) := by rw [h]
theorem ret_vi {v : Value} {a b : Int} (h : a = b) : Ending.returned (.tuple #[v, .int .i64 a]) = .returned (.tuple #[v, .int .i64 b]) := by rw [h]
theorem ret_vii {v : Value} {a b c d : Int} (h : a = c) (h' : b = d) : Ending.returned (.tuple #[v, .int .i64 a, .int .i64 b]) = .returned (.tuple #[v, .int .i64 c, .int .i64 d]) := by rw [h, h']
/-- A cell of such a row. -/
theorem row_cell {base g n cv : Nat} {w : World} {d : List Int} (h : w.ownsRow base 2 1 (.slice (some ⟨g, 0, none⟩) n cv) n (vals d)) (hl : d.length = n) {i : Nat} (hi : i < n) : w.cell? ⟨g, i, none⟩ = some (.int .i64 (d.getD i 0)) := by
  rw [World.ownsRow.cellAt h _ (by omega), vals_get (by omega), getD_pt (by omega)]
theorem row_free {base g n cv : Nat} {w : World} {d : List Int} (h : w.ownsRow base 2 1 (.slice (some ⟨g, 0, none⟩) n cv) n (vals d)) (i : Nat) : w.frozen? ⟨g, i, none⟩ = false := World.ownsRow.frozenAt h i
theorem row_lt {base g n cv : Nat} {w : World} {d : List Int} (h : w.ownsRow base 2 1 (.slice (some ⟨g, 0, none⟩) n cv) n (vals d)) : g < w.heap.size := (World.ownsRow.lt h _ rfl).2
end Go.Proofs.YtejkoicgbgoiaaaGreat

/- Networks: the small functions of the program and the reference: the other end of an airway, how it is told, whether a number is on a list. Conditions: the facts on memory and on lengths that each theorem names. -/
namespace Go.Proofs.YtejkoicgbgoiaaaGreat
open Go.RowKit
open Pl
/-- The airway of a number as an edge. -/
def edA (xs : List Aw) (k : Int) : Ed := ⟨k, (xs.getD k.toNat aNone).f, (xs.getD k.toNat aNone).t⟩
def edsA (xs : List Aw) (es : List Int) : List Ed := es.map (edA xs)
def IdxOk (n : Nat) (es : List Int) : Prop := ∀ i, i < es.length → ∃ p : Nat, es.getD i 0 = p ∧ p < n
theorem edsA_length (xs : List Aw) (es : List Int) : (edsA xs es).length = es.length := List.length_map _
theorem edsA_get {xs : List Aw} {es : List Int} {i : Nat} (h : i < es.length) : (edsA xs es).getD i eNone = edA xs (es.getD i 0) := getD_map _ _ _ h
/-- The ends of an airway of a valid mine. -/
theorem mine_ends {N : Nat} {xs : List Aw} (h : mineB (N : Int) xs = true) {p : Nat} (hp : p < xs.length) : ∃ F T : Nat, (xs.getD p aNone).f = F ∧ (xs.getD p aNone).t = T ∧ F < N ∧ T < N ∧ F ≠ T := by
  obtain ⟨_, _, h3⟩ := mineB_bd h
  obtain ⟨ha, he⟩ := h3 p hp
  unfold endsB at he
  rw [Bool.and_eq_true] at he
  obtain ⟨⟨a1, a2⟩, b1, b2⟩ := And.intro (inB_iff.1 he.1) (inB_iff.1 he.2)
  obtain ⟨_, _, h5, _⟩ := airwayB_bd ha
  exact ⟨((xs.getD p aNone).f).toNat, ((xs.getD p aNone).t).toNat, by omega, by omega, by omega, by omega, by omega⟩
theorem edsA_in {N : Nat} {xs : List Aw} {es : List Int} (h : mineB (N : Int) xs = true) (he : IdxOk xs.length es) : EdIn N (edsA xs es) := by
  intro i hi
  rw [edsA_length] at hi
  rw [edsA_get hi]
  obtain ⟨p, hp, hpl⟩ := he i hi
  obtain ⟨F, T, h1, h2, h3, h4, _⟩ := mine_ends h hpl
  unfold edA
  rw [hp, Int.toNat_natCast, h1, h2]
  dsimp only
  exact ⟨⟨by omega, by omega⟩, by omega, by omega⟩
theorem other_any (s : ByteArray) (f t l c r k a : Int) (q : Int) (w : World) :
    Calls Tryz.prog 161 #[.agg #[.string s, .int .i64 f, .int .i64 t, .int .i64 l, .int .i64 c, .int .i64 r, .int .i64 k], .int .i64 a] w fun e w' => e = .returned (.tuple #[.int .i64 ((oth ⟨q, f, t⟩ a).getD 0), .bool (oth ⟨q, f, t⟩ a).isSome]) ∧ Below w.heap.size w w' := by
  by_cases h1 : a = f
  · have e : oth ⟨q, f, t⟩ a = some t := by unfold oth; rw [if_pos h1]
    rw [e]
    go_enter Tryz.func161, Tryz.ntmps161
    go_wp2
    go_ret2
    exact ⟨rfl, by go_grown⟩
  · by_cases h2 : a = t
    · have e : oth ⟨q, f, t⟩ a = some f := by unfold oth; rw [if_neg h1, if_pos h2]
      rw [e]
      go_enter Tryz.func161, Tryz.ntmps161
      go_wp2
      go_ret2
      exact ⟨rfl, by go_grown⟩
    · have e : oth ⟨q, f, t⟩ a = none := by unfold oth; rw [if_neg h1, if_neg h2]
      rw [e]
      go_enter Tryz.func161, Tryz.ntmps161
      go_wp2
      go_ret2
      exact ⟨rfl, by go_grown⟩
theorem step_any (J : Int) (A : Option Addr) (cp : Nat) (xs : List Aw) (p : Nat) (a : Int) (B : Nat) (w : World) (hn : (xs.length : Int) ≤ 1099511627776) (hI : Recs encA 7 B w A xs) (hB : B ≤ w.heap.size) (hp : p < xs.length) :
    Calls Tryz.prog 162 #[.agg #[.int .i64 J, .slice A xs.length cp], .int .i64 (p : Int), .int .i64 a] w fun e w' => e = .returned (.int .i64 (sgn (edA xs p) a)) ∧ Below w.heap.size w w' := by
  obtain ⟨⟨s, f, t, l, c, r, k⟩, hx⟩ : ∃ x, xs.getD p aNone = x := ⟨_, rfl⟩
  have be0 : Below w.heap.size w (w.alloc (.cells #[.int .i64 J, .slice A xs.length cp] 33)) := by go_grown
  obtain ⟨b, o, rfl, hab, -, c1, -⟩ := ((hI.more hB).below be0).cells7 hp hx
  have i0 : (0 : Int) ≤ (p : Int) := by omega
  have i1 : (p : Int) < xs.length := by omega
  have hs : sgn (edA xs p) a = if f = a then (p : Int) + 1 else -(p : Int) - 1 := by
    unfold sgn edA
    rw [Int.toNat_natCast, hx]
  rw [hs]
  clear hs hI hx
  by_cases h : f = a
  · rw [if_pos h]
    have hb : (f == a) = true := by rw [beq_iff_eq]; exact h
    go_enter Tryz.func162, Tryz.ntmps162
    go_wp2
    go_ret
    exact ⟨ret_int (by omega), by go_grown⟩
  · rw [if_neg h]
    have hb : (f == a) = false := by rw [beq_eq_false_iff_ne]; exact h
    go_enter Tryz.func162, Tryz.ntmps162
    go_wp2
    go_ret
    exact ⟨ret_int (by omega), by go_grown⟩
/-- Whether a number is on a list, as a loop asks. -/
theorem any_at (xs : List Int) (a : Int) : ∃ m, m ≤ xs.length ∧ (∀ k, k < m → (xs.getD k 0 == a) = false) ∧ (m < xs.length → (xs.getD m 0 == a) = true) ∧ xs.contains a = decide (m < xs.length) := by
  induction xs with
  | nil => exact ⟨0, Nat.le_refl _, fun k h => by omega, fun h => by simp at h, rfl⟩
  | cons x xs ih =>
    by_cases h : x = a
    · exact ⟨0, Nat.zero_le _, fun k h => by omega, fun _ => by simp [List.getD, h], by simp [h]⟩
    · obtain ⟨m, h1, h2, h3, h4⟩ := ih
      refine ⟨m + 1, by simpa using h1, fun k hk => ?_, fun hm => ?_, ?_⟩
      · cases k with
        | zero => simpa [List.getD] using h
        | succ k => exact h2 k (by omega)
      · exact h3 (by simpa using hm)
      · rw [List.contains_cons, h4]
        have : (a == x) = false := by rw [beq_eq_false_iff_ne]; exact fun e => h e.symm
        rw [this]; simp
theorem Index_any (A : Option Addr) (c : Nat) (xs : List Int) (a : Int) (B : Nat) (w : World) (hn : (xs.length : Int) ≤ 1099511627776) (hI : Ints B w A xs) :
    Calls Tryz.prog 160 #[.slice A xs.length c, .int .i64 a] w fun e w' => (∃ r : Int, e = .returned (.int .i64 r) ∧ decide (0 ≤ r) = xs.contains a) ∧ w = w' := by
  obtain ⟨m, m1, m2, m3, m4⟩ := any_at xs a
  generalize xs.contains a = R at *
  have M2 := Lib.hid m2
  have M3 := Lib.hid m3
  have M4 := Lib.hid m4
  have J := Lib.hid hI
  clear m2 m3 m4 hI
  go_enter Tryz.func160, Tryz.ntmps160
  go_wp2
  go_loop [8] (fun i => ∃ q : Nat, q ≤ m ∧ i = .int .i64 q) (fun i => xs.length - (intOf i).toNat)
  case atStart => exact ⟨0, Nat.zero_le _, rfl⟩
  case round =>
    obtain ⟨q, hq, rfl⟩ := hrel
    by_cases hlt : q < xs.length
    · obtain ⟨ad, rfl, _, hc⟩ := J.out.atD hlt
      have i0 : (0 : Int) ≤ (q : Int) := by omega
      have i1 : (q : Int) < xs.length := by omega
      by_cases hqm : q < m
      · have h := M2.out q hqm
        generalize xs.getD q 0 = x at *
        have h : (a == x) = false := by rw [beq_eq_false_iff_ne] at h ⊢; exact fun e => h e.symm
        go_wp2
        go_round
        case rel => exact ⟨q + 1, by omega, by go_num⟩
        case measure => simp [intOf]; omega
      · obtain rfl : m = q := by omega
        have h := M3.out hlt
        have HD := Lib.hid (decide_eq_true hlt)
        generalize xs.getD m 0 = x at *
        have h : (a == x) = true := by rw [beq_iff_eq] at h ⊢; exact h.symm
        go_wp2
        go_ret
        exact ⟨⟨(m : Int), rfl, by rw [M4.out, HD.out]; exact decide_eq_true (by omega)⟩, rfl⟩
    · have HD := Lib.hid (decide_eq_false (show ¬ m < xs.length by omega))
      obtain rfl : q = xs.length := by omega
      go_wp2
      go_ret
      exact ⟨⟨-1, rfl, by rw [M4.out, HD.out]; rfl⟩, rfl⟩
theorem Contains_any (A : Option Addr) (c : Nat) (xs : List Int) (a : Int) (B : Nat) (w : World) (hn : (xs.length : Int) ≤ 1099511627776) (hI : Ints B w A xs) :
    Calls Tryz.prog 127 #[.slice A xs.length c, .int .i64 a] w fun e w' => e = .returned (.bool (xs.contains a)) ∧ w = w' := by
  have HC := Lib.hid (Index_any A c xs a B w hn hI)
  clear hI
  generalize xs.contains a = R at *
  go_enter Tryz.func127, Tryz.ntmps127
  go_wp2_with fail
  refine HC.out.mono ?_
  rintro e w2 ⟨⟨r, rfl, hr⟩, rfl⟩
  go_wp2_with fail
  go_ret
  exact ⟨rfl, rfl⟩
theorem l00Has_any (A : Option Addr) (c : Nat) (xs : List Int) (a : Int) (B : Nat) (w : World) (hn : (xs.length : Int) ≤ 1099511627776) (hI : Ints B w A xs) :
    Calls Tryz.prog 144 #[.slice A xs.length c, .int .i64 a] w fun e w' => e = .returned (.bool (xs.contains a)) ∧ w = w' := by
  obtain ⟨m, m1, m2, m3, m4⟩ := any_at xs a
  generalize xs.contains a = R at *
  have M2 := Lib.hid m2
  have M3 := Lib.hid m3
  have M4 := Lib.hid m4
  have J := Lib.hid hI
  clear m2 m3 m4 hI
  go_enter Tryz.func144, Tryz.ntmps144
  go_wp2
  go_loop [5] (fun i => ∃ q : Nat, q ≤ m ∧ i = .int .i64 q) (fun i => xs.length - (intOf i).toNat)
  case atStart => exact ⟨0, Nat.zero_le _, rfl⟩
  case round =>
    obtain ⟨q, hq, rfl⟩ := hrel
    by_cases hlt : q < xs.length
    · obtain ⟨ad, rfl, _, hc⟩ := J.out.atD hlt
      have i0 : (0 : Int) ≤ (q : Int) := by omega
      have i1 : (q : Int) < xs.length := by omega
      by_cases hqm : q < m
      · have h := M2.out q hqm
        generalize xs.getD q 0 = x at *
        go_wp2
        go_round
        case rel => exact ⟨q + 1, by omega, by go_num⟩
        case measure => simp [intOf]; omega
      · obtain rfl : m = q := by omega
        have h := M3.out hlt
        have HD := Lib.hid (decide_eq_true hlt)
        generalize xs.getD m 0 = x at *
        go_wp2
        go_ret
        exact ⟨ret_bool (by rw [M4.out, HD.out]), rfl⟩
    · have HD := Lib.hid (decide_eq_false (show ¬ m < xs.length by omega))
      obtain rfl : q = xs.length := by omega
      go_wp2
      go_ret
      exact ⟨ret_bool (by rw [M4.out, HD.out]), rfl⟩
end Go.Proofs.YtejkoicgbgoiaaaGreat

/- Flows: lists that go with a mine; whether flows are balanced; by the program and by the reference. Conditions: the facts on memory and on lengths that each theorem names. -/
namespace Go.Proofs.YtejkoicgbgoiaaaGreat
open Go.RowKit
open Pl
/-- A list of the length n with numbers in a range. -/
def lstN (n : Nat) (xs : List Int) (lo hi : Int) : Bool := decide ((xs.length : Int) = n) && allIn xs lo hi
theorem lstN_iff {n : Nat} {xs : List Int} {lo hi : Int} : lstN n xs lo hi = true ↔ xs.length = n ∧ ∀ i, i < n → lo ≤ xs.getD i 0 ∧ xs.getD i 0 ≤ hi := by
  unfold lstN
  rw [Bool.and_eq_true, decide_eq_true_eq, allIn_up, allUp_iff]
  constructor
  · rintro ⟨h1, h2⟩
    have h1 : xs.length = n := by omega
    exact ⟨h1, fun i hi => inB_iff.1 (h2 i (by omega))⟩
  · rintro ⟨h1, h2⟩
    exact ⟨by omega, fun i hi => inB_iff.2 (h2 i (by omega))⟩
def sysB (n : Nat) (rs ps fl : List Int) : Bool := lstN n rs 1 1000000 && (lstN n ps (-100000) 100000 && lstN n fl (-100000) 100000)
/-- What comes to a junction less what leaves it, along the first airways. -/
def exK (xs : List Aw) (fl : List Int) (j : Int) : Nat → Int
  | 0 => 0
  | k + 1 => if (xs.getD k aNone).t = j then exK xs fl j k + fl.getD k 0 else if (xs.getD k aNone).f = j then exK xs fl j k - fl.getD k 0 else exK xs fl j k
theorem exK_bd {xs : List Aw} {fl : List Int} {j : Int} {n : Nat} (h : ∀ i, i < n → -100000 ≤ fl.getD i 0 ∧ fl.getD i 0 ≤ 100000) : ∀ k, k ≤ n → -(100000 * (k : Int)) ≤ exK xs fl j k ∧ exK xs fl j k ≤ 100000 * (k : Int)
  | 0, _ => by unfold exK; omega
  | k + 1, hk => by
    have ih := exK_bd (xs := xs) (j := j) h k (by omega)
    have h1 := h k (by omega)
    unfold exK
    split
    · omega
    · split
      · omega
      · omega
def balB (N : Nat) (xs : List Aw) (fl : List Int) : Bool := allUp (fun j => decide (exK xs fl (j : Int) xs.length = 0)) N
set_option maxRecDepth 100000 in
theorem l07Flows_any (bm om : Nat) (A : Option Addr) (cp nx : Nat) (A2 : Option Addr) (c2 : Nat) (dr : List Int) (B : Nat) (w : World) (_ : (nx : Int) ≤ 1099511627776) (hn : (dr.length : Int) ≤ 1099511627776) (hI : Ints B w A2 dr) (mm : w.cell? ⟨bm, om + 1, none⟩ = some (.slice A nx cp)) :
    Calls Tryz.prog 102 #[.pointer (some ⟨bm, om, none⟩), .slice A2 dr.length c2] w fun e w' => e = .returned (.bool (decide ((dr.length : Int) = nx) && allIn dr (-100000) 100000)) ∧ ∃ n, w.drewN n = w' := by
  obtain ⟨m, m1, m2, m3, m4⟩ := any_stop (fun x : Int => !inB x (-100000) 100000) dr 0
  obtain ⟨R, hR⟩ : ∃ R, R = (decide ((dr.length : Int) = nx) && allIn dr (-100000) 100000) := ⟨_, rfl⟩
  rw [← hR]
  have HR : Hid (R = (decide ((dr.length : Int) = nx) && !decide (m < dr.length))) := Lib.hid (by
    have e : allIn dr (-100000) 100000 = !(dr.any fun x => !inB x (-100000) 100000) := by unfold allIn; rw [List.not_any_eq_all_not]; simp
    rw [hR, e, m4])
  have M2 := Lib.hid m2
  have M3 := Lib.hid m3
  have J0 := Lib.hid hI
  clear hR m2 m3 m4 hI
  go_enter Tryz.func102, Tryz.ntmps102
  go_wp2
  go_loopw [5] (fun i wr => ∃ q : Nat, q ≤ m ∧ i = .int .i64 q ∧ w = wr) (fun i _ => dr.length - (intOf i).toNat)
  case atStart => exact ⟨0, Nat.zero_le _, rfl, rfl⟩
  case round =>
    obtain ⟨q, hq, rfl, rfl⟩ := hrel
    by_cases hlt : q < dr.length
    · obtain ⟨ad, rfl, _, hc⟩ := J0.out.at_ (k := q) hlt
      have e : dr.getD q 0 = dr[q] := by simp [List.getD, hlt]
      have i0 : (0 : Int) ≤ (q : Int) := by omega
      have i1 : (q : Int) < dr.length := by omega
      by_cases hqm : q < m
      · have hb := M2.out q hqm
        rw [e] at hb
        have hb : (!inB dr[q] (-100000) 100000) = false := hb
        rw [Bool.not_eq_false'] at hb
        generalize dr[q] = x at *
        clear e
        go_wp2_with (go_at_call 137; refine (eqb (l03Flow_any _ _) hb).mono ?_; rintro e w' ⟨rfl, rfl⟩)
        go_roundw
        case rel => exact ⟨q + 1, by omega, by go_num, by first | trivial | rfl⟩
        case measure => simp [intOf]; omega
      · obtain rfl : m = q := by omega
        have hb := M3.out hlt
        rw [e] at hb
        have hb : (!inB dr[m] (-100000) 100000) = true := hb
        rw [Bool.not_eq_true'] at hb
        have HD := Lib.hid (decide_eq_true hlt)
        generalize dr[m] = x at *
        clear e
        go_wp2_with (go_at_call 137; refine (eqb (l03Flow_any _ _) hb).mono ?_; rintro e w' ⟨rfl, rfl⟩)
        go_ret
        exact ⟨ret_bool (by rw [HR.out, HD.out]; simp), 0, rfl⟩
    · have HD := Lib.hid (decide_eq_false (show ¬ m < dr.length by omega))
      by_cases hl : (dr.length : Int) = nx
      · have HL := Lib.hid (decide_eq_true hl)
        have hlb : ((dr.length : Int) == (nx : Int)) = true := by rw [beq_iff_eq]; exact hl
        clear hl
        go_wp2
        go_ret
        exact ⟨ret_bool (by rw [HR.out, HD.out, HL.out]; first | rfl | simp [hlb]), 0, rfl⟩
      · have HL := Lib.hid (decide_eq_false hl)
        have hlb : ((dr.length : Int) == (nx : Int)) = false := by rw [beq_eq_false_iff_ne]; exact hl
        clear hl
        go_wp2
        go_ret
        exact ⟨ret_bool (by rw [HR.out, HD.out, HL.out]; first | rfl | simp [hlb]), 0, rfl⟩
set_option maxRecDepth 100000 in
theorem l07Res_any (bm om : Nat) (A : Option Addr) (cp nx : Nat) (A2 : Option Addr) (c2 : Nat) (dr : List Int) (B : Nat) (w : World) (_ : (nx : Int) ≤ 1099511627776) (hn : (dr.length : Int) ≤ 1099511627776) (hI : Ints B w A2 dr) (mm : w.cell? ⟨bm, om + 1, none⟩ = some (.slice A nx cp)) :
    Calls Tryz.prog 101 #[.pointer (some ⟨bm, om, none⟩), .slice A2 dr.length c2] w fun e w' => e = .returned (.bool (decide ((dr.length : Int) = nx) && allIn dr 1 1000000)) ∧ ∃ n, w.drewN n = w' := by
  obtain ⟨m, m1, m2, m3, m4⟩ := any_stop (fun x : Int => !inB x 1 1000000) dr 0
  obtain ⟨R, hR⟩ : ∃ R, R = (decide ((dr.length : Int) = nx) && allIn dr 1 1000000) := ⟨_, rfl⟩
  rw [← hR]
  have HR : Hid (R = (decide ((dr.length : Int) = nx) && !decide (m < dr.length))) := Lib.hid (by
    have e : allIn dr 1 1000000 = !(dr.any fun x => !inB x 1 1000000) := by unfold allIn; rw [List.not_any_eq_all_not]; simp
    rw [hR, e, m4])
  have M2 := Lib.hid m2
  have M3 := Lib.hid m3
  have J0 := Lib.hid hI
  clear hR m2 m3 m4 hI
  go_enter Tryz.func101, Tryz.ntmps101
  go_wp2
  go_loopw [5] (fun i wr => ∃ q : Nat, q ≤ m ∧ i = .int .i64 q ∧ w = wr) (fun i _ => dr.length - (intOf i).toNat)
  case atStart => exact ⟨0, Nat.zero_le _, rfl, rfl⟩
  case round =>
    obtain ⟨q, hq, rfl, rfl⟩ := hrel
    by_cases hlt : q < dr.length
    · obtain ⟨ad, rfl, _, hc⟩ := J0.out.at_ (k := q) hlt
      have e : dr.getD q 0 = dr[q] := by simp [List.getD, hlt]
      have i0 : (0 : Int) ≤ (q : Int) := by omega
      have i1 : (q : Int) < dr.length := by omega
      by_cases hqm : q < m
      · have hb := M2.out q hqm
        rw [e] at hb
        have hb : (!inB dr[q] 1 1000000) = false := hb
        rw [Bool.not_eq_false'] at hb
        generalize dr[q] = x at *
        clear e
        go_wp2_with (go_at_call 136; refine (eqb (l03Res_any _ _) hb).mono ?_; rintro e w' ⟨rfl, rfl⟩)
        go_roundw
        case rel => exact ⟨q + 1, by omega, by go_num, by first | trivial | rfl⟩
        case measure => simp [intOf]; omega
      · obtain rfl : m = q := by omega
        have hb := M3.out hlt
        rw [e] at hb
        have hb : (!inB dr[m] 1 1000000) = true := hb
        rw [Bool.not_eq_true'] at hb
        have HD := Lib.hid (decide_eq_true hlt)
        generalize dr[m] = x at *
        clear e
        go_wp2_with (go_at_call 136; refine (eqb (l03Res_any _ _) hb).mono ?_; rintro e w' ⟨rfl, rfl⟩)
        go_ret
        exact ⟨ret_bool (by rw [HR.out, HD.out]; simp), 0, rfl⟩
    · have HD := Lib.hid (decide_eq_false (show ¬ m < dr.length by omega))
      by_cases hl : (dr.length : Int) = nx
      · have HL := Lib.hid (decide_eq_true hl)
        have hlb : ((dr.length : Int) == (nx : Int)) = true := by rw [beq_iff_eq]; exact hl
        clear hl
        go_wp2
        go_ret
        exact ⟨ret_bool (by rw [HR.out, HD.out, HL.out]; first | rfl | simp [hlb]), 0, rfl⟩
      · have HL := Lib.hid (decide_eq_false hl)
        have hlb : ((dr.length : Int) == (nx : Int)) = false := by rw [beq_eq_false_iff_ne]; exact hl
        clear hl
        go_wp2
        go_ret
        exact ⟨ret_bool (by rw [HR.out, HD.out, HL.out]; first | rfl | simp [hlb]), 0, rfl⟩
theorem hasSystem_any (J : Int) (A : Option Addr) (cp : Nat) (xs : List Aw) (AR : Option Addr) (cr : Nat) (rs : List Int) (AP : Option Addr) (cq : Nat) (ps : List Int) (AL : Option Addr) (cl : Nat) (fl : List Int) (B : Nat) (w : World) (hx : (xs.length : Int) ≤ 1099511627776) (hnr : (rs.length : Int) ≤ 1099511627776) (hnp : (ps.length : Int) ≤ 1099511627776) (hnl : (fl.length : Int) ≤ 1099511627776)
    (hR : Ints B w AR rs) (hP : Ints B w AP ps) (hL : Ints B w AL fl) (hB : B ≤ w.heap.size) (tR : Fits rs) (tP : Fits ps) (tL : Fits fl) :
    Calls Tryz.prog 91 #[.agg #[.int .i64 J, .slice A xs.length cp], .slice AR rs.length cr, .slice AP ps.length cq, .slice AL fl.length cl] w fun e w' => e = .returned (.bool (sysB xs.length rs ps fl)) ∧ Below w.heap.size w w' := by
  have be0 : Below w.heap.size w (w.alloc (.cells #[.int .i64 J, .slice A xs.length cp] 33)) := by go_grown
  have k0 : ((w.alloc (.cells #[.int .i64 J, .slice A xs.length cp] 33))).cell? ⟨w.heap.size, 0, none⟩ = some (.int .i64 J) := by go_simp
  have k1 : ((w.alloc (.cells #[.int .i64 J, .slice A xs.length cp] 33))).cell? ⟨w.heap.size, 1, none⟩ = some (.slice A xs.length cp) := by go_simp
  have S1 := Lib.hid (fun (W : World) (hb : Below w.heap.size w W) => hasList_any J A cp xs AR cr rs 1 1000000 w.heap.size W hx hnr ((hR.more hB).below hb) hb.size tR)
  have S2 := Lib.hid (fun (W : World) (hb : Below w.heap.size w W) => hasList_any J A cp xs AP cq ps (-100000) 100000 w.heap.size W hx hnp ((hP.more hB).below hb) hb.size tP)
  have S3 := Lib.hid (fun (W : World) (hb : Below w.heap.size w W) => hasFlows_any J A cp xs AL cl fl w.heap.size W hx hnl ((hL.more hB).below hb) hb.size tL)
  have e : sysB xs.length rs ps fl = ((decide ((rs.length : Int) = xs.length) && allIn rs 1 1000000) && ((decide ((ps.length : Int) = xs.length) && allIn ps (-100000) 100000) && (decide ((fl.length : Int) = xs.length) && allIn fl (-100000) 100000))) := rfl
  rw [e]
  clear hR hP hL tR tP tL e
  generalize (decide ((rs.length : Int) = xs.length) && allIn rs 1 1000000) = b1 at *
  generalize (decide ((ps.length : Int) = xs.length) && allIn ps (-100000) 100000) = b2 at *
  generalize (decide ((fl.length : Int) = xs.length) && allIn fl (-100000) 100000) = b3 at *
  cases b1
  · go_enter Tryz.func91, Tryz.ntmps91
    go_wp2_with fail
    refine (S1.out _ be0).mono ?_
    rintro e w1 ⟨rfl, hb1⟩
    go_wp2_with fail
    go_ret
    exact ⟨rfl, be0.trans (hb1.mono be0.size)⟩
  cases b2
  · go_enter Tryz.func91, Tryz.ntmps91
    go_wp2_with fail
    generalize (w.alloc (.cells #[.int .i64 J, .slice A xs.length cp] 33)) = w0 at *
    refine (S1.out _ be0).mono ?_
    rintro e w1 ⟨rfl, hb1⟩
    have k01 := cell_later hb1 k0
    have k11 := cell_later hb1 k1
    have be1 := be0.trans (hb1.mono be0.size)
    go_wp2_with fail
    refine (S2.out _ be1).mono ?_
    rintro e w2 ⟨rfl, hb2⟩
    go_wp2_with fail
    go_ret
    exact ⟨rfl, be1.trans (hb2.mono be1.size)⟩
  go_enter Tryz.func91, Tryz.ntmps91
  go_wp2_with fail
  generalize (w.alloc (.cells #[.int .i64 J, .slice A xs.length cp] 33)) = w0 at *
  refine (S1.out _ be0).mono ?_
  rintro e w1 ⟨rfl, hb1⟩
  have k01 := cell_later hb1 k0
  have k11 := cell_later hb1 k1
  have be1 := be0.trans (hb1.mono be0.size)
  go_wp2_with fail
  refine (S2.out _ be1).mono ?_
  rintro e w2 ⟨rfl, hb2⟩
  have k02 := cell_later hb2 k01
  have k12 := cell_later hb2 k11
  have be2 := be1.trans (hb2.mono be1.size)
  go_wp2_with fail
  refine (S3.out _ be2).mono ?_
  rintro e w3 ⟨rfl, hb3⟩
  go_wp2_with fail
  go_ret
  exact ⟨rfl, be2.trans (hb3.mono be2.size)⟩
set_option maxRecDepth 100000 in
set_option maxHeartbeats 1600000 in
theorem imbalance_any (J : Int) (A : Option Addr) (cp : Nat) (xs : List Aw) (AL : Option Addr) (cl : Nat) (fl : List Int) (j : Int) (w : World) (hn : xs.length ≤ 24) (hI : Recs encA 7 w.heap.size w A xs) (hL : Ints w.heap.size w AL fl) (hl : fl.length = xs.length) (hfb : ∀ i, i < xs.length → -100000 ≤ fl.getD i 0 ∧ fl.getD i 0 ≤ 100000) :
    Calls Tryz.prog 125 #[.agg #[.int .i64 J, .slice A xs.length cp], .slice AL fl.length cl, .int .i64 j] w fun e w' => e = .returned (.int .i64 (exK xs fl j xs.length)) ∧ Below w.heap.size w w' := by
  have be0 : Below w.heap.size w (w.alloc (.cells #[.int .i64 J, .slice A xs.length cp] 33)) := by go_grown
  have k0 : ((w.alloc (.cells #[.int .i64 J, .slice A xs.length cp] 33))).cell? ⟨w.heap.size, 0, none⟩ = some (.int .i64 J) := by go_simp
  have k1 : ((w.alloc (.cells #[.int .i64 J, .slice A xs.length cp] 33))).cell? ⟨w.heap.size, 1, none⟩ = some (.slice A xs.length cp) := by go_simp
  have J0 := Lib.hid ((hI.below be0).more be0.size)
  have JL := Lib.hid ((hL.below be0).more be0.size)
  have HL := Lib.hid hl
  have HFB := Lib.hid hfb
  have hl24 : fl.length ≤ 24 := by omega
  clear hI hL hl hfb
  go_enter Tryz.func125, Tryz.ntmps125
  go_wp2
  generalize (w.alloc (.cells #[.int .i64 J, .slice A xs.length cp] 33)) = w0 at *
  clear k0 k1
  go_loopw [7, 13] (fun u ii wr => ∃ k : Nat, k ≤ xs.length ∧ ii = .int .i64 k ∧ u = .int .i64 (exK xs fl j k) ∧ Below w0.heap.size w0 wr) (fun _ ii _ => xs.length - (intOf ii).toNat)
  case atStart => exact ⟨0, Nat.zero_le _, rfl, rfl, Below.refl _ _⟩
  case round =>
    obtain ⟨k, hk, rfl, rfl, hb⟩ := hrel
    by_cases hlt : k < xs.length
    · obtain ⟨⟨s, f, t, l, c, r, q⟩, hax⟩ : ∃ x, xs.getD k aNone = x := ⟨_, rfl⟩
      obtain ⟨b, o, rfl, hab, c0, c1, c2, c3, c4, c5, c6⟩ := (J0.out.below hb).cells7 hlt hax
      obtain ⟨adl, rfl, hal, hcl⟩ := (JL.out.below hb).atD (k := k) (by have := HL.out; omega)
      have hEb := exK_bd (xs := xs) (j := j) HFB.out k (by omega)
      have hfb := HFB.out k hlt
      have HST : Hid (exK xs fl j (k + 1) = if t = j then exK xs fl j k + fl.getD k 0 else if f = j then exK xs fl j k - fl.getD k 0 else exK xs fl j k) := Lib.hid (by
        have e : exK xs fl j (k + 1) = if (xs.getD k aNone).t = j then exK xs fl j k + fl.getD k 0 else if (xs.getD k aNone).f = j then exK xs fl j k - fl.getD k 0 else exK xs fl j k := rfl
        rw [e, hax])
      have i0 : (0 : Int) ≤ (k : Int) := by omega
      have i1 : (k : Int) < xs.length := by omega
      have i2 : (k : Int) < fl.length := by have := HL.out; omega
      have hsz := hb.size
      have hba : Below wr.heap.size wr (wr.alloc (.cells #[.string s, .int .i64 f, .int .i64 t, .int .i64 l, .int .i64 c, .int .i64 r, .int .i64 q] 99)) := (Below.refl _ _).alloc (Nat.le_refl _) _
      have a1 : ((wr.alloc (.cells #[.string s, .int .i64 f, .int .i64 t, .int .i64 l, .int .i64 c, .int .i64 r, .int .i64 q] 99))).cell? ⟨wr.heap.size, 1, none⟩ = some (.int .i64 f) := by go_simp
      have a2 : ((wr.alloc (.cells #[.string s, .int .i64 f, .int .i64 t, .int .i64 l, .int .i64 c, .int .i64 r, .int .i64 q] 99))).cell? ⟨wr.heap.size, 2, none⟩ = some (.int .i64 t) := by go_simp
      have hbw := hb.trans (hba.mono hsz)
      have hcl' := cell_later hba hcl
      clear hax
      generalize fl.getD k 0 = x at *
      generalize exK xs fl j k = ex at *
      by_cases h1 : t = j
      · have HS2 := Lib.hid (show exK xs fl j (k + 1) = ex + x by rw [HST.out, if_pos h1])
        have hjb : (j == t) = true := by rw [beq_iff_eq]; exact h1.symm
        clear HST h1
        go_wp2
        go_roundw
        case rel => exact ⟨k + 1, by omega, by go_num, by rw [HS2.out], hbw⟩
        case measure => simp [intOf]; omega
      · have hjb : (j == t) = false := by rw [beq_eq_false_iff_ne]; exact fun e => h1 e.symm
        by_cases h2 : f = j
        · have HS2 := Lib.hid (show exK xs fl j (k + 1) = ex - x by rw [HST.out, if_neg h1, if_pos h2])
          have hjf : (j == f) = true := by rw [beq_iff_eq]; exact h2.symm
          clear HST h1 h2
          go_wp2
          go_roundw
          case rel => exact ⟨k + 1, by omega, by go_num, by rw [HS2.out], hbw⟩
          case measure => simp [intOf]; omega
        · have HS2 := Lib.hid (show exK xs fl j (k + 1) = ex by rw [HST.out, if_neg h1, if_neg h2])
          have hjf : (j == f) = false := by rw [beq_eq_false_iff_ne]; exact fun e => h2 e.symm
          clear HST h1 h2
          go_wp2
          go_roundw
          case rel => exact ⟨k + 1, by omega, by go_num, by rw [HS2.out], hbw⟩
          case measure => simp [intOf]; omega
    · obtain rfl : k = xs.length := by omega
      go_wp2
      go_ret
      exact ⟨rfl, be0.trans (hb.mono be0.size)⟩
set_option maxRecDepth 100000 in
theorem balanced_any (N : Nat) (A : Option Addr) (cp : Nat) (xs : List Aw) (AL : Option Addr) (cl : Nat) (fl : List Int) (w : World) (hN : N ≤ 16) (hn : xs.length ≤ 24) (hI : Recs encA 7 w.heap.size w A xs) (hL : Ints w.heap.size w AL fl) (hl : fl.length = xs.length) (hfb : ∀ i, i < xs.length → -100000 ≤ fl.getD i 0 ∧ fl.getD i 0 ≤ 100000) :
    Calls Tryz.prog 92 #[.agg #[.int .i64 (N : Int), .slice A xs.length cp], .slice AL fl.length cl] w fun e w' => e = .returned (.bool (balB N xs fl)) ∧ Below w.heap.size w w' := by
  obtain ⟨m, m1, m2, m3⟩ := first_stop (fun j => decide (exK xs fl (j : Int) xs.length = 0)) N
  obtain ⟨R, hR⟩ : ∃ R, R = balB N xs fl := ⟨_, rfl⟩
  rw [← hR]
  have HR : Hid (R = decide (m = N)) := Lib.hid (by rw [hR]; unfold balB; rw [allUp_stop m1 m2 m3])
  have M2 := Lib.hid m2
  have M3 := Lib.hid m3
  have be0 : Below w.heap.size w (w.alloc (.cells #[.int .i64 (N : Int), .slice A xs.length cp] 33)) := by go_grown
  have k0 : (w.alloc (.cells #[.int .i64 (N : Int), .slice A xs.length cp] 33)).cell? ⟨w.heap.size, 0, none⟩ = some (.int .i64 (N : Int)) := by go_simp
  have k1 : (w.alloc (.cells #[.int .i64 (N : Int), .slice A xs.length cp] 33)).cell? ⟨w.heap.size, 1, none⟩ = some (.slice A xs.length cp) := by go_simp
  have J0 := Lib.hid ((hI.below be0).more be0.size)
  have JL := Lib.hid ((hL.below be0).more be0.size)
  have HC := Lib.hid (fun (W : World) (j : Int) (hb : Below w.heap.size w W) => imbalance_any (N : Int) A cp xs AL cl fl j W hn ((hI.below hb).more hb.size) ((hL.below hb).more hb.size) hl hfb)
  clear hI hL hl hfb m2 m3 hR
  have K0 := Lib.hid k0
  have K1 := Lib.hid k1
  go_enter Tryz.func92, Tryz.ntmps92
  go_wp2
  generalize (w.alloc (.cells #[.int .i64 (N : Int), .slice A xs.length cp] 33)) = w0 at *
  clear k0 k1
  go_loopw [8] (fun ii wr => ∃ k : Nat, k ≤ m ∧ ii = .int .i64 k ∧ Below w0.heap.size w0 wr) (fun ii _ => N - (intOf ii).toNat)
  case atStart => exact ⟨0, Nat.zero_le _, rfl, Below.refl _ _⟩
  case round =>
    obtain ⟨k, hk, rfl, hb⟩ := hrel
    have m0 := cell_later hb K0.out
    have mm := cell_later hb K1.out
    have hbw := be0.trans (hb.mono be0.size)
    by_cases hlt : k < N
    · have HCk := Lib.hid (HC.out wr (k : Int) hbw)
      by_cases hkm : k < m
      · have hz : exK xs fl (k : Int) xs.length = 0 := of_decide_eq_true (M2.out k hkm)
        rw [hz] at HCk
        clear hz
        go_wp2_with fail
        refine HCk.out.mono ?_
        rintro e w2 ⟨rfl, hb2⟩
        go_wp2
        go_roundw
        case rel => exact ⟨k + 1, by omega, by go_num, hb.trans (hb2.mono hb.size)⟩
        case measure => simp [intOf]; omega
      · obtain rfl : m = k := by omega
        have hz : ¬ exK xs fl (m : Int) xs.length = 0 := of_decide_eq_false (M3.out hlt)
        have HD := Lib.hid (decide_eq_false (show ¬ m = N by omega))
        generalize exK xs fl (m : Int) xs.length = x at *
        have hxb : (x != 0) = true := by simpa using hz
        clear hz
        go_wp2_with fail
        refine HCk.out.mono ?_
        rintro e w2 ⟨rfl, hb2⟩
        go_wp2
        go_ret
        exact ⟨ret_bool (by rw [HR.out, HD.out]), hbw.trans (hb2.mono hbw.size)⟩
    · have HD := Lib.hid (decide_eq_true (show m = N by omega))
      obtain rfl : k = N := by omega
      go_wp2
      go_ret
      exact ⟨ret_bool (by rw [HR.out, HD.out]), hbw⟩
set_option maxRecDepth 100000 in
set_option maxHeartbeats 1600000 in
theorem l07Excess_any (bm om : Nat) (A : Option Addr) (cp : Nat) (xs : List Aw) (AL : Option Addr) (cl : Nat) (fl : List Int) (j : Int) (B : Nat) (w : World) (hn : xs.length ≤ 24) (hI : Recs encA 7 B w A xs) (hL : Ints B w AL fl) (hl : fl.length = xs.length) (hfb : ∀ i, i < xs.length → -100000 ≤ fl.getD i 0 ∧ fl.getD i 0 ≤ 100000) (hne : ∀ i, i < xs.length → (xs.getD i aNone).f ≠ (xs.getD i aNone).t)
    (mm : w.cell? ⟨bm, om + 1, none⟩ = some (.slice A xs.length cp)) :
    Calls Tryz.prog 157 #[.pointer (some ⟨bm, om, none⟩), .slice AL fl.length cl, .int .i64 j] w fun e w' => e = .returned (.int .i64 (exK xs fl j xs.length)) ∧ w = w' := by
  have J0 := Lib.hid hI
  have JL := Lib.hid hL
  have HL := Lib.hid hl
  have HFB := Lib.hid hfb
  have HNE := Lib.hid hne
  have hl24 : fl.length ≤ 24 := by omega
  clear hI hL hl hfb hne
  go_enter Tryz.func157, Tryz.ntmps157
  go_wp2
  go_loop [7, 8] (fun u ii => ∃ k : Nat, k ≤ xs.length ∧ ii = .int .i64 k ∧ u = .int .i64 (exK xs fl j k)) (fun _ ii => xs.length - (intOf ii).toNat)
  case atStart => exact ⟨0, Nat.zero_le _, rfl, rfl⟩
  case round =>
    obtain ⟨k, hk, rfl, rfl⟩ := hrel
    by_cases hlt : k < xs.length
    · obtain ⟨⟨s, f, t, l, c, r, q⟩, hax⟩ : ∃ x, xs.getD k aNone = x := ⟨_, rfl⟩
      obtain ⟨b, o, rfl, hab, c0, c1, c2, c3, c4, c5, c6⟩ := J0.out.cells7 hlt hax
      obtain ⟨adl, rfl, hal, hcl⟩ := JL.out.atD (k := k) (by have := HL.out; omega)
      have hEb := exK_bd (xs := xs) (j := j) HFB.out k (by omega)
      have hfb := HFB.out k hlt
      have hne := HNE.out k hlt
      rw [hax] at hne
      have hne : f ≠ t := hne
      have HST : Hid (exK xs fl j (k + 1) = if t = j then exK xs fl j k + fl.getD k 0 else if f = j then exK xs fl j k - fl.getD k 0 else exK xs fl j k) := Lib.hid (by
        have e : exK xs fl j (k + 1) = if (xs.getD k aNone).t = j then exK xs fl j k + fl.getD k 0 else if (xs.getD k aNone).f = j then exK xs fl j k - fl.getD k 0 else exK xs fl j k := rfl
        rw [e, hax])
      have i0 : (0 : Int) ≤ (k : Int) := by omega
      have i1 : (k : Int) < xs.length := by omega
      have i2 : (k : Int) < fl.length := by have := HL.out; omega
      clear hax
      generalize fl.getD k 0 = x at *
      generalize exK xs fl j k = ex at *
      by_cases h1 : t = j
      · have HS2 := Lib.hid (show exK xs fl j (k + 1) = ex + x by rw [HST.out, if_pos h1])
        have hjb : (t == j) = true := by rw [beq_iff_eq]; exact h1
        have hjf : (f == j) = false := by rw [beq_eq_false_iff_ne]; exact fun e => hne (e.trans h1.symm)
        clear HST h1 hne
        go_wp2
        go_round
        case rel => exact ⟨k + 1, by omega, by go_num, by rw [HS2.out]⟩
        case measure => simp [intOf]; omega
      · have hjb : (t == j) = false := by rw [beq_eq_false_iff_ne]; exact h1
        by_cases h2 : f = j
        · have HS2 := Lib.hid (show exK xs fl j (k + 1) = ex - x by rw [HST.out, if_neg h1, if_pos h2])
          have hjf : (f == j) = true := by rw [beq_iff_eq]; exact h2
          clear HST h1 h2 hne
          go_wp2
          go_round
          case rel => exact ⟨k + 1, by omega, by go_num, by rw [HS2.out]⟩
          case measure => simp [intOf]; omega
        · have HS2 := Lib.hid (show exK xs fl j (k + 1) = ex by rw [HST.out, if_neg h1, if_neg h2])
          have hjf : (f == j) = false := by rw [beq_eq_false_iff_ne]; exact h2
          clear HST h1 h2 hne
          go_wp2
          go_round
          case rel => exact ⟨k + 1, by omega, by go_num, by rw [HS2.out]⟩
          case measure => simp [intOf]; omega
    · obtain rfl : k = xs.length := by omega
      go_wp2
      go_ret
      exact ⟨rfl, rfl⟩
set_option maxRecDepth 100000 in
theorem l07Balanced_any (bm om : Nat) (N : Nat) (A : Option Addr) (cp : Nat) (xs : List Aw) (AL : Option Addr) (cl : Nat) (fl : List Int) (B : Nat) (w : World) (hN : N ≤ 16) (hn : xs.length ≤ 24) (hI : Recs encA 7 B w A xs) (hL : Ints B w AL fl) (hl : fl.length = xs.length) (hfb : ∀ i, i < xs.length → -100000 ≤ fl.getD i 0 ∧ fl.getD i 0 ≤ 100000) (hne : ∀ i, i < xs.length → (xs.getD i aNone).f ≠ (xs.getD i aNone).t)
    (m0 : w.cell? ⟨bm, om, none⟩ = some (.int .i64 (N : Int))) (mm : w.cell? ⟨bm, om + 1, none⟩ = some (.slice A xs.length cp)) :
    Calls Tryz.prog 122 #[.pointer (some ⟨bm, om, none⟩), .slice AL fl.length cl] w fun e w' => e = .returned (.bool (balB N xs fl)) ∧ w = w' := by
  obtain ⟨m, m1, m2, m3⟩ := first_stop (fun j => decide (exK xs fl (j : Int) xs.length = 0)) N
  obtain ⟨R, hR⟩ : ∃ R, R = balB N xs fl := ⟨_, rfl⟩
  rw [← hR]
  have HR : Hid (R = decide (m = N)) := Lib.hid (by rw [hR]; unfold balB; rw [allUp_stop m1 m2 m3])
  have M2 := Lib.hid m2
  have M3 := Lib.hid m3
  have HC := Lib.hid (fun (j : Int) => l07Excess_any bm om A cp xs AL cl fl j B w hn hI hL hl hfb hne mm)
  clear hI hL hl hfb m2 m3 hR hne mm
  go_enter Tryz.func122, Tryz.ntmps122
  go_wp2
  go_loop [5] (fun ii => ∃ k : Nat, k ≤ m ∧ ii = .int .i64 k) (fun ii => N - (intOf ii).toNat)
  case atStart => exact ⟨0, Nat.zero_le _, rfl⟩
  case round =>
    obtain ⟨k, hk, rfl⟩ := hrel
    by_cases hlt : k < N
    · have HCk := Lib.hid (HC.out (k : Int))
      by_cases hkm : k < m
      · have hz : exK xs fl (k : Int) xs.length = 0 := of_decide_eq_true (M2.out k hkm)
        rw [hz] at HCk
        clear hz
        go_wp2_with fail
        refine HCk.out.mono ?_
        rintro e w2 ⟨rfl, rfl⟩
        go_wp2
        go_round
        case rel => exact ⟨k + 1, by omega, by go_num⟩
        case measure => simp [intOf]; omega
      · obtain rfl : m = k := by omega
        have hz : ¬ exK xs fl (m : Int) xs.length = 0 := of_decide_eq_false (M3.out hlt)
        have HD := Lib.hid (decide_eq_false (show ¬ m = N by omega))
        generalize exK xs fl (m : Int) xs.length = x at *
        have hxb : (x != 0) = true := by simpa using hz
        clear hz
        go_wp2_with fail
        refine HCk.out.mono ?_
        rintro e w2 ⟨rfl, rfl⟩
        go_wp2
        go_ret
        exact ⟨ret_bool (by rw [HR.out, HD.out]), rfl⟩
    · have HD := Lib.hid (decide_eq_true (show m = N by omega))
      obtain rfl : k = N := by omega
      go_wp2
      go_ret
      exact ⟨ret_bool (by rw [HR.out, HD.out]), rfl⟩
end Go.Proofs.YtejkoicgbgoiaaaGreat

/- Networks: the labels of parts, by the reference. Conditions: the facts on memory and on lengths that each theorem names. -/
namespace Go.Proofs.YtejkoicgbgoiaaaGreat
open Go.RowKit
open Pl
theorem upto_succ (n : Nat) : upto (n + 1) = upto n ++ [(n : Int)] := by unfold upto; rw [List.range_succ, List.map_append]; rfl
/-- The first j labels turned. -/
def relN (d : List Int) (hi lo : Int) : Nat → List Int | 0 => d | j + 1 => if (relN d hi lo j).getD j 0 = hi then (relN d hi lo j).set j lo else relN d hi lo j
theorem relN_length (d : List Int) (hi lo : Int) : ∀ j, (relN d hi lo j).length = d.length
  | 0 => rfl
  | j + 1 => by unfold relN; split; (rw [List.length_set]; exact relN_length d hi lo j); exact relN_length d hi lo j
theorem relN_get (d : List Int) (hi lo : Int) : ∀ j, j ≤ d.length → ∀ i, i < d.length → (relN d hi lo j).getD i 0 = if i < j ∧ d.getD i 0 = hi then lo else d.getD i 0
  | 0, _, i, _ => by rw [if_neg (by omega)]; rfl
  | j + 1, hj, i, hi' => by
    have ih := relN_get d hi lo j (by omega)
    have e : relN d hi lo (j + 1) = if (relN d hi lo j).getD j 0 = hi then (relN d hi lo j).set j lo else relN d hi lo j := rfl
    have ej := ih j (by omega)
    rw [if_neg (show ¬ (j < j ∧ d.getD j 0 = hi) by omega)] at ej
    rw [e, ej]
    by_cases h : d.getD j 0 = hi
    · rw [if_pos h, getD_set _ _ _ _ (by rw [relN_length]; omega), ih i hi']
      by_cases e2 : i = j
      · subst e2; rw [if_pos rfl, if_pos ⟨by omega, h⟩]
      · rw [if_neg e2]
        by_cases e3 : i < j ∧ d.getD i 0 = hi
        · rw [if_pos e3, if_pos ⟨by omega, e3.2⟩]
        · rw [if_neg e3, if_neg (fun c => e3 ⟨by omega, c.2⟩)]
    · rw [if_neg h, ih i hi']
      by_cases e3 : i < j ∧ d.getD i 0 = hi
      · rw [if_pos e3, if_pos ⟨by omega, e3.2⟩]
      · rw [if_neg e3, if_neg]
        rintro ⟨c1, c2⟩
        by_cases e2 : i = j
        · subst e2; exact h c2
        · exact e3 ⟨by omega, c2⟩
theorem ext_getD {a b : List Int} (hl : a.length = b.length) (h : ∀ i, i < a.length → a.getD i 0 = b.getD i 0) : a = b := by
  refine List.ext_getElem hl (fun i h1 h2 => ?_)
  have := h i h1
  rw [getD_pt h1, getD_pt h2] at this
  exact this
theorem relN_all (d : List Int) (e : Ed) : relN d (mx (d.getD e.f.toNat 0) (d.getD e.t.toNat 0)) (mn (d.getD e.f.toNat 0) (d.getD e.t.toNat 0)) d.length = relab d e := by
  refine ext_getD (by rw [relN_length]; unfold relab; rw [List.length_map]) (fun i hi => ?_)
  rw [relN_length] at hi
  rw [relN_get _ _ _ _ (Nat.le_refl _) i hi]
  unfold relab
  rw [getD_map _ (0 : Int) _ hi]
  by_cases h : d.getD i 0 = mx (d.getD e.f.toNat 0) (d.getD e.t.toNat 0)
  · rw [if_pos ⟨hi, h⟩, if_pos h]
  · rw [if_neg (fun c => h c.2), if_neg h]
set_option maxRecDepth 100000 in
set_option maxHeartbeats 3200000 in
theorem l04Parts_any (bm om : Nat) (N : Nat) (A : Option Addr) (cp : Nat) (xs : List Aw) (AE : Option Addr) (ce : Nat) (es : List Int) (w : World) (hI : Recs encA 7 w.heap.size w A xs) (hm : mineB (N : Int) xs = true) (hE : Ints w.heap.size w AE es) (hok : IdxOk xs.length es) (hel : es.length ≤ 24)
    (m0 : w.cell? ⟨bm, om, none⟩ = some (.int .i64 (N : Int))) (mm : w.cell? ⟨bm, om + 1, none⟩ = some (.slice A xs.length cp)) :
    Calls Tryz.prog 169 #[.pointer (some ⟨bm, om, none⟩), .slice AE es.length ce] w fun e w' => ∃ u, e = .returned u ∧ Own w.heap.size w' u (partsK N (edsA xs es) es.length) ∧ Below w.heap.size w w' := by
  obtain ⟨⟨n1, n2⟩, nx, _⟩ := mineB_bd hm
  have HE := Lib.hid (fun p (hp : p < xs.length) => mine_ends hm hp)
  have HK := Lib.hid hok
  have HPL := Lib.hid (partsK_length N (edsA xs es))
  have J0 := Lib.hid hI
  have JE := Lib.hid hE
  have hbm : bm < w.heap.size := World.block_lt_of_cell? _ _ m0
  have hN1 : 1 ≤ N := by omega
  have hN2 : N ≤ 16 := by omega
  have hxn : xs.length ≤ 24 := by omega
  obtain ⟨i0, hi, hz0, hz1, hz2⟩ := info_parts infoI
  have HF := Lib.hid (And.intro hi (And.intro hz0 (And.intro hz1 hz2)))
  have M0 := Lib.hid m0
  have M1 := Lib.hid mm
  clear hI hm hE hok n1 n2 nx hi hz0 hz1 hz2 m0 mm
  go_enter Tryz.func169, Tryz.ntmps169
  go_wp2
  go_loopw [5, 6] (fun u ii wr => ∃ q : Nat, q ≤ N ∧ ii = .int .i64 q ∧ Below w.heap.size w wr ∧ Own w.heap.size wr u (upto q)) (fun _ ii _ => N - (intOf ii).toNat)
  case atStart => exact ⟨0, Nat.zero_le _, rfl, (Below.refl _ _).alloc (Nat.le_refl _) _, Own.empty (Nat.le_refl _)⟩
  case round =>
    obtain ⟨q, hq, rfl, hb, ho⟩ := hrel
    have m0 := cell_later hb M0.out
    have m1 := cell_later hb M1.out
    have hsz := hb.size
    by_cases hlt : q < N
    · have HO := Lib.hid ho
      have hl : (upto q).length ≤ 16 := by rw [upto_length]; omega
      have HS := Lib.hid (upto_succ q)
      clear ho
      go_wp2_with (at_builtin; refine wpList_append_own_at _ rfl _ _ 25 rfl w.heap.size 2 i0 (.int .i64 0) 1 8 Tryz.underlying25 HF.out.1 HF.out.2.1 HF.out.2.2.1 HF.out.2.2.2 rfl (by decide) _ _ _ rfl (HO.out.later ((Below.refl _ _).alloc (Nat.le_refl _) _)) ⟨wr.heap.size, 0, none⟩ 1 1 [.int .i64 (q : Int)] rfl rfl (cell_one_new _ _ _) (by intro u hu; simp at hu; subst hu; rfl) (le_max (by omega)) (by omega) (by simp; omega) ?_; intro av aw ah ag an aa)
      have hbe2 : Below w.heap.size w aw := Below.appended hb HO.out hsz ag
      have ho' := Own.appended ah
      clear ah ag an aa
      have HO3 := Lib.hid ho'
      clear ho'
      go_wp2
      go_roundw
      case rel => exact ⟨q + 1, by omega, by go_num, hbe2, by rw [HS.out]; exact HO3.out⟩
      case measure => simp [intOf]; omega
    · obtain rfl : q = N := by omega
      obtain ⟨AV, cv, hv, -, -⟩ := ho.slice
      rw [upto_length] at hv
      subst hv
      obtain ⟨g, rfl, hg1, hrow⟩ := ho.row (n := q) (by omega) (upto_length q)
      have HRow := Lib.hid hrow
      have HBw := Lib.hid hb
      obtain ⟨wq, hwq⟩ : ∃ wq : World, wq = wr := ⟨_, rfl⟩
      subst hwq
      clear ho hrow
      go_wp2
      go_loopw [7] (fun kk wo => ∃ (r : Nat), r ≤ es.length ∧ kk = .int .i64 r ∧ Below w.heap.size w wo ∧ wo.ownsRow w.heap.size 2 1 (.slice (some ⟨g, 0, none⟩) q cv) q (vals (partsK q (edsA xs es) r))) (fun kk _ => es.length - (intOf kk).toNat)
      case atStart => exact ⟨0, Nat.zero_le _, rfl, HBw.out, HRow.out⟩
      case round =>
        obtain ⟨r, hr, rfl, hb2, hown⟩ := hrel
        have m0 := cell_later hb2 M0.out
        have m1 := cell_later hb2 M1.out
        obtain ⟨wo, hwo⟩ : ∃ wo : World, wo = wr := ⟨_, rfl⟩
        subst hwo
        by_cases hlt2 : r < es.length
        · obtain ⟨p, hp, hpx⟩ := HK.out r hlt2
          obtain ⟨F, T, hF, hT, hFN, hTN, _⟩ := HE.out p hpx
          have hsz2 := hb2.size
          obtain ⟨ad, hAE, _, ce0⟩ := (JE.out.below hb2).atD hlt2
          rw [hp] at ce0
          subst hAE
          obtain ⟨⟨s, f, t, l, c, rr, k⟩, hx⟩ : ∃ x, xs.getD p aNone = x := ⟨_, rfl⟩
          obtain ⟨b, o, hA, hab, -, c1, c2, -⟩ := (J0.out.below hb2).cells7 hpx hx
          subst hA
          have hed : (edsA xs es).getD r eNone = ⟨(p : Int), (F : Int), (T : Int)⟩ := by
            rw [edsA_get hlt2]; unfold edA; rw [hp, Int.toNat_natCast, hF, hT]
          rw [hx] at hF hT
          have hF : f = (F : Int) := hF
          have hT : t = (T : Int) := hT
          subst hF hT
          have hdl := HPL.out r
          have HNX : Hid (∀ d : List Int, d = partsK q (edsA xs es) r → relN d (mx (d.getD F 0) (d.getD T 0)) (mn (d.getD F 0) (d.getD T 0)) q = partsK q (edsA xs es) (r + 1)) := Lib.hid (by
            rintro d rfl
            have h := relN_all (partsK q (edsA xs es) r) ((edsA xs es).getD r eNone)
            rw [hdl] at h
            rw [hed] at h
            have h' : relab (partsK q (edsA xs es) r) ((edsA xs es).getD r eNone) = partsK q (edsA xs es) (r + 1) := rfl
            rw [hed] at h'
            rw [← h', ← h]
            simp)
          obtain ⟨d, hd⟩ : ∃ d, d = partsK q (edsA xs es) r := ⟨_, rfl⟩
          have HNX := Lib.hid (HNX.out d hd)
          rw [← hd] at hown hdl
          clear hd hed hx hp
          have hcf := row_cell hown hdl hFN
          have hct := row_cell hown hdl hTN
          have HOW := Lib.hid hown
          have HDL := Lib.hid hdl
          have i0' : (0 : Int) ≤ (r : Int) := by omega
          have i1' : (r : Int) < es.length := by omega
          have p0 : (0 : Int) ≤ (p : Int) := by omega
          have p1 : (p : Int) < xs.length := by omega
          have hF0 : (0 : Int) ≤ (F : Int) := by omega
          have hF1 : (F : Int) < q := by omega
          have hT0 : (0 : Int) ≤ (T : Int) := by omega
          have hT1 : (T : Int) < q := by omega
          generalize d.getD F 0 = x at *
          generalize d.getD T 0 = y at *
          have HMN := Lib.hid (fun W => l00Min_any x y W)
          have HMX := Lib.hid (fun W => l00Max_any x y W)
          generalize mn x y = lo at *
          generalize mx x y = hi at *
          clear hown hdl
          go_wp2
          go_big_quiet (fail)
          go_wp2
          go_big_quiet ((go_at_call 151; first | (with_reducible exact quiet_s (HMN.out _)) | (with_reducible exact quiet_s2 (HMN.out _))))
          go_wp2
          go_big_quiet ((go_at_call 141; first | (with_reducible exact quiet_s (HMX.out _)) | (with_reducible exact quiet_s2 (HMX.out _))))
          go_wp2
          go_loopw [11] (fun jj wi => ∃ j : Nat, j ≤ q ∧ jj = .int .i64 j ∧ Below w.heap.size w wi ∧ wi.ownsRow w.heap.size 2 1 (.slice (some ⟨g, 0, none⟩) q cv) q (vals (relN d hi lo j))) (fun jj _ => q - (intOf jj).toNat)
          case atStart => exact ⟨0, Nat.zero_le _, rfl, below_drewN (below_drewN (below_drewN hb2 _) _) _, drewN_row (drewN_row (drewN_row HOW.out _) _) _⟩
          case round =>
            obtain ⟨j, hj, rfl, hb3, hown3⟩ := hrel
            by_cases hjl : j < q
            · have hl3 : (relN d hi lo j).length = q := by rw [relN_length]; exact HDL.out
              have hcj := row_cell hown3 hl3 hjl
              have hfz := row_free hown3 j
              have j0 : (0 : Int) ≤ (j : Int) := by omega
              have j1 : (j : Int) < q := by omega
              have HST : Hid (relN d hi lo (j + 1) = if (relN d hi lo j).getD j 0 = hi then (relN d hi lo j).set j lo else relN d hi lo j) := Lib.hid rfl
              have HO3 := Lib.hid hown3
              generalize (relN d hi lo j).getD j 0 = z at *
              clear hown3 hl3
              by_cases hz : z = hi
              · have hzb : (z == hi) = true := by rw [beq_iff_eq]; exact hz
                have HST := Lib.hid (show relN d hi lo (j + 1) = (relN d hi lo j).set j lo by rw [HST.out, if_pos hz])
                clear hz
                go_wp2
                go_roundw
                case rel =>
                  refine ⟨j + 1, by omega, by go_num, ?_⟩
                  rw [HST.out]
                  exact fit_set ⟨hb3, HO3.out⟩ hg1 _ _
                case measure => simp [intOf]; omega
              · have hzb : (z == hi) = false := by rw [beq_eq_false_iff_ne]; exact hz
                have HST := Lib.hid (show relN d hi lo (j + 1) = relN d hi lo j by rw [HST.out, if_neg hz])
                clear hz
                go_wp2
                go_roundw
                case rel =>
                  refine ⟨j + 1, by omega, by go_num, hb3, ?_⟩
                  rw [HST.out]
                  exact HO3.out
                case measure => simp [intOf]; omega
            · obtain rfl : j = q := by omega
              have HO3 := Lib.hid hown3
              clear hown3
              go_wp2
              go_roundw
              case rel => exact ⟨r + 1, by omega, by go_num, hb3, by rw [← HNX.out]; exact HO3.out⟩
              case measure => simp [intOf]; omega
        · obtain rfl : r = es.length := by omega
          have HOO : Hid (Own w.heap.size wo (.slice (some ⟨g, 0, none⟩) q cv) (partsK q (edsA xs es) es.length)) := Lib.hid (Own.of_row hown (HPL.out _) hg1)
          clear hown
          go_wp2
          go_ret
          exact ⟨_, rfl, HOO.out, hb2⟩
end Go.Proofs.YtejkoicgbgoiaaaGreat

/- Networks: the spanning forest, by the reference. Conditions: the facts on memory and on lengths that each theorem names. -/
namespace Go.Proofs.YtejkoicgbgoiaaaGreat
open Go.RowKit
open Pl
/-- The airways, among the first k, that join parts which are not joined yet. -/
def treeL (N : Nat) (xs : List Aw) : Nat → List Int
  | 0 => []
  | k + 1 => if lab N (edsA xs (treeL N xs k)) (xs.getD k aNone).f = lab N (edsA xs (treeL N xs k)) (xs.getD k aNone).t then treeL N xs k else treeL N xs k ++ [(k : Int)]
def forest (N : Nat) (xs : List Aw) : List Int := treeL N xs xs.length
theorem treeL_length (N : Nat) (xs : List Aw) : ∀ k, (treeL N xs k).length ≤ k
  | 0 => Nat.le_refl _
  | k + 1 => by have := treeL_length N xs k; unfold treeL; split; omega; simp; omega
theorem treeL_ok (N : Nat) (xs : List Aw) : ∀ k, IdxOk k (treeL N xs k)
  | 0 => fun i h => by simp [treeL] at h
  | k + 1 => by
    have ih := treeL_ok N xs k
    intro i hi
    unfold treeL at hi ⊢
    split at hi
    · rename_i hc
      rw [if_pos hc]
      obtain ⟨p, e, hp⟩ := ih i hi
      exact ⟨p, e, by omega⟩
    · rename_i hc
      rw [if_neg hc]
      by_cases e : i < (treeL N xs k).length
      · obtain ⟨p, e2, hp⟩ := ih i e
        exact ⟨p, by rw [getD_app e]; exact e2, by omega⟩
      · have e : i = (treeL N xs k).length := by simp at hi; omega
        subst e
        exact ⟨k, getD_last, by omega⟩
theorem IdxOk.more {n n' : Nat} {es : List Int} (h : IdxOk n es) (hn : n ≤ n') : IdxOk n' es := fun i hi => by
  obtain ⟨p, e, hp⟩ := h i hi
  exact ⟨p, e, by omega⟩
set_option maxRecDepth 100000 in
set_option maxHeartbeats 3200000 in
theorem l04Tree_any (bm om : Nat) (N : Nat) (A : Option Addr) (cp : Nat) (xs : List Aw) (w : World) (hI : Recs encA 7 w.heap.size w A xs) (hm : mineB (N : Int) xs = true)
    (m0 : w.cell? ⟨bm, om, none⟩ = some (.int .i64 (N : Int))) (mm : w.cell? ⟨bm, om + 1, none⟩ = some (.slice A xs.length cp)) :
    Calls Tryz.prog 143 #[.pointer (some ⟨bm, om, none⟩)] w fun e w' => ∃ u, e = .returned u ∧ Own w.heap.size w' u (forest N xs) ∧ Below w.heap.size w w' := by
  obtain ⟨⟨n1, n2⟩, nx, _⟩ := mineB_bd hm
  have HE := Lib.hid (fun p (hp : p < xs.length) => mine_ends hm hp)
  have HM := Lib.hid hm
  have J0 := Lib.hid hI
  have hN1 : 1 ≤ N := by omega
  have hN2 : N ≤ 16 := by omega
  have hxn : xs.length ≤ 24 := by omega
  obtain ⟨i0, hi, hz0, hz1, hz2⟩ := info_parts infoI
  have HF := Lib.hid (And.intro hi (And.intro hz0 (And.intro hz1 hz2)))
  have M0 := Lib.hid m0
  have M1 := Lib.hid mm
  clear hI hm n1 n2 nx hi hz0 hz1 hz2 m0 mm
  go_enter Tryz.func143, Tryz.ntmps143
  go_wp2
  go_loopw [3, 4] (fun u ii wr => ∃ q : Nat, q ≤ xs.length ∧ ii = .int .i64 q ∧ Below w.heap.size w wr ∧ Own w.heap.size wr u (treeL N xs q)) (fun _ ii _ => xs.length - (intOf ii).toNat)
  case atStart => exact ⟨0, Nat.zero_le _, rfl, (Below.refl _ _).alloc (Nat.le_refl _) _, Own.empty (Nat.le_refl _)⟩
  case round =>
    obtain ⟨q, hq, rfl, hb, ho⟩ := hrel
    have m0 := cell_later hb M0.out
    have m1 := cell_later hb M1.out
    have hsz := hb.size
    by_cases hlt : q < xs.length
    · obtain ⟨F, T, hF, hT, hFN, hTN, _⟩ := HE.out q hlt
      have htl := treeL_length N xs q
      have hS : treeL N xs (q + 1) = if (partsK N (edsA xs (treeL N xs q)) (treeL N xs q).length).getD F 0 = (partsK N (edsA xs (treeL N xs q)) (treeL N xs q).length).getD T 0 then treeL N xs q else treeL N xs q ++ [(q : Int)] := by
        have e : treeL N xs (q + 1) = if lab N (edsA xs (treeL N xs q)) (xs.getD q aNone).f = lab N (edsA xs (treeL N xs q)) (xs.getD q aNone).t then treeL N xs q else treeL N xs q ++ [(q : Int)] := rfl
        rw [e, hF, hT]
        unfold lab labK
        rw [edsA_length, Int.toNat_natCast, Int.toNat_natCast]
      have HS := Lib.hid hS
      obtain ⟨AV, cv, hv, hiv, -⟩ := ho.slice
      have HP := Lib.hid (l04Parts_any bm om N A cp xs AV cv (treeL N xs q) wr ((J0.out.below hb).more hb.size) HM.out hiv ((treeL_ok N xs q).more hq) (by omega) m0 m1)
      have HPL := Lib.hid (partsK_length N (edsA xs (treeL N xs q)) (treeL N xs q).length)
      obtain ⟨⟨s, f, t, l, c, rr, k⟩, hx⟩ : ∃ x, xs.getD q aNone = x := ⟨_, rfl⟩
      obtain ⟨b, o, hA, hab, -, c1, c2, -⟩ := (J0.out.below hb).cells7 hlt hx
      subst hA
      rw [hx] at hF hT
      have hF : f = (F : Int) := hF
      have hT : t = (T : Int) := hT
      subst hF hT
      generalize hp : partsK N (edsA xs (treeL N xs q)) (treeL N xs q).length = ps at *
      generalize treeL N xs q = tr at *
      have HO := Lib.hid ho
      have i0' : (0 : Int) ≤ (q : Int) := by omega
      have i1' : (q : Int) < xs.length := by omega
      have hF0 : (0 : Int) ≤ (F : Int) := by omega
      have hF1 : (F : Int) < N := by omega
      have hT0 : (0 : Int) ≤ (T : Int) := by omega
      have hT1 : (T : Int) < N := by omega
      subst hv
      clear ho hS hp hx hiv
      go_wp2_with fail
      refine HP.out.mono ?_
      rintro e w2 ⟨u2, rfl, ho2, hb2⟩
      have m0 := cell_later hb2 m0
      have m1 := cell_later hb2 m1
      have c1 := cell_later hb2 c1
      have c2 := cell_later hb2 c2
      obtain ⟨A2, cv2, hv2, -, -⟩ := ho2.slice
      rw [HPL.out] at hv2
      subst hv2
      obtain ⟨g, rfl, hg1, hrow⟩ := ho2.row (n := N) (by omega) HPL.out
      have hcf := row_cell hrow HPL.out hFN
      have hct := row_cell hrow HPL.out hTN
      have hbw : Below w.heap.size w w2 := hb.trans (hb2.mono hb.size)
      have HO2 := Lib.hid (HO.out.later hb2)
      generalize ps.getD F 0 = x at *
      generalize ps.getD T 0 = y at *
      clear ho2 hrow HP
      by_cases hxy : x = y
      · have hxb : (x != y) = false := by rw [hxy]; simp
        have HS := Lib.hid (show treeL N xs (q + 1) = tr by rw [HS.out, if_pos hxy])
        clear hxy
        go_wp2
        go_big_quiet (fail)
        go_wp2
        go_roundw
        case rel => exact ⟨q + 1, by omega, by go_num, below_drewN hbw _, by rw [HS.out]; exact HO2.out.later (below_drewN (Below.refl _ _) _)⟩
        case measure => simp [intOf]; omega
      · have hxb : (x != y) = true := by simpa using hxy
        have HS := Lib.hid (show treeL N xs (q + 1) = tr ++ [(q : Int)] by rw [HS.out, if_neg hxy])
        clear hxy
        go_wp2
        go_big_quiet (fail)
        have hb3 := below_drewN hbw nq
        have HO3 := Lib.hid (HO2.out.later (below_drewN (Below.refl _ _) nq))
        have hsz3 := hb3.size
        clear c1 c2 hcf hct
        generalize w2.drewN nq = wd at *
        go_wp2_with (at_builtin; refine wpList_append_own_at _ rfl _ _ 25 rfl w.heap.size 2 i0 (.int .i64 0) 1 8 Tryz.underlying25 HF.out.1 HF.out.2.1 HF.out.2.2.1 HF.out.2.2.2 rfl (by decide) _ _ _ rfl (HO3.out.later ((Below.refl _ _).alloc (Nat.le_refl _) _)) ⟨wd.heap.size, 0, none⟩ 1 1 [.int .i64 (q : Int)] rfl rfl (cell_one_new _ _ _) (by intro u hu; simp at hu; subst hu; rfl) (le_max (by omega)) (by omega) (by simp; omega) ?_; intro av aw ah ag an aa)
        have hbe2 : Below w.heap.size w aw := Below.appended hb3 HO3.out hsz3 ag
        have ho' := Own.appended ah
        clear ah ag an aa
        have HO4 := Lib.hid ho'
        clear ho'
        go_wp2
        go_roundw
        case rel => exact ⟨q + 1, by omega, by go_num, hbe2, by rw [HS.out]; exact HO4.out⟩
        case measure => simp [intOf]; omega
    · obtain rfl : q = xs.length := by omega
      have HO := Lib.hid ho
      clear ho
      go_wp2
      go_ret
      exact ⟨_, rfl, HO.out, hb⟩
end Go.Proofs.YtejkoicgbgoiaaaGreat

/- Networks: the first shortest walk along some airways, by the reference. Conditions: the facts on memory and on lengths that each theorem names. Printed by gen_netf.py. -/
namespace Go.Proofs.YtejkoicgbgoiaaaGreat
open Go.RowKit
open Pl
/-- A row that reads as a function on the vertices below N. -/
def Reads (N : Nat) (D : List Int) (f : Int → Int) : Prop := ∀ v : Nat, v < N → D.getD v 0 = f v
theorem pass_step {N : Nat} {G : List Ed} {to : Int} {s i F T : Nat} {k : Int} {D : List Int} (hi : i < G.length) (he : G.getD i eNone = ⟨k, F, T⟩) (hl : D.length = N) (hF : F < N) (hT : T < N) (hD : Reads N D (dstP G to s i)) :
    (D.getD F 0 = s → D.getD T 0 < 0 → Reads N (D.set T ((s : Int) + 1)) (dstP G to s (i + 1))) ∧
    (¬ (D.getD F 0 = s ∧ D.getD T 0 < 0) → D.getD T 0 = s → D.getD F 0 < 0 → Reads N (D.set F ((s : Int) + 1)) (dstP G to s (i + 1))) ∧
    (¬ (D.getD F 0 = s ∧ D.getD T 0 < 0) → ¬ (D.getD T 0 = s ∧ D.getD F 0 < 0) → Reads N D (dstP G to s (i + 1))) := by
  have hc : ∀ v : Nat, v < N → dstP G to s (i + 1) v = mark1 (mark1 (dstP G to s i) s F T) s T F v := by
    intro v _
    have h := mark1_comp G to s i hi v
    rw [he] at h
    exact h.symm
  have u : ∀ (P : Int → Int) (a b v : Int), mark1 P s a b v = if v = b ∧ P a = s ∧ P b < 0 then (s : Int) + 1 else P v := fun P a b v => rfl
  have eF := hD F hF
  have eT := hD T hT
  refine ⟨fun h1 h2 v hv => ?_, fun h1 h2 h3 v hv => ?_, fun h1 h2 v hv => ?_⟩
  · rw [hc v hv, getD_set _ _ _ _ (by omega)]
    by_cases e : v = T
    · subst e
      rw [if_pos rfl]
      have e1 : mark1 (dstP G to s i) s F v v = (s : Int) + 1 := by rw [u, if_pos ⟨rfl, by omega, by omega⟩]
      rw [mark1_no (by rw [e1]; omega), e1]
    · rw [if_neg e, hD v hv]
      have e1 : mark1 (dstP G to s i) s F T v = dstP G to s i v := by rw [u, if_neg (by omega)]
      have e2 : mark1 (dstP G to s i) s F T T = (s : Int) + 1 := by rw [u, if_pos ⟨rfl, by omega, by omega⟩]
      rw [u (mark1 (dstP G to s i) s F T), if_neg (by rw [e2]; omega), e1]
  · rw [hc v hv, getD_set _ _ _ _ (by omega)]
    have e0 : ∀ x, mark1 (dstP G to s i) s F T x = dstP G to s i x := fun x => by rw [u, if_neg (by rw [← eF, ← eT]; omega)]
    rw [u (mark1 (dstP G to s i) s F T), e0, e0, e0, ← eF, ← eT]
    by_cases e : v = F
    · subst e; rw [if_pos rfl, if_pos ⟨rfl, h2, h3⟩]
    · rw [if_neg e, if_neg (by omega), hD v hv]
  · rw [hc v hv]
    have e0 : ∀ x, mark1 (dstP G to s i) s F T x = dstP G to s i x := fun x => by rw [u, if_neg (by rw [← eF, ← eT]; omega)]
    rw [u (mark1 (dstP G to s i) s F T), e0, e0, e0, ← eF, ← eT, if_neg (by omega), hD v hv]
theorem reads_start {N to : Nat} {G : List Ed} (h : to < N) : Reads N ((List.replicate N (-1 : Int)).set to 0) (dst G (to : Int) 0) := by
  intro v hv
  rw [getD_set _ _ _ _ (by simp; exact h)]
  unfold dst
  by_cases e : v = to
  · subst e; rw [if_pos rfl, if_pos rfl]
  · rw [if_neg e, if_neg (by omega)]
    simp [List.getD, hv]
theorem reads_bd {N : Nat} {G : List Ed} {to : Int} {s i : Nat} {D : List Int} (h : Reads N D (dstP G to s i)) {v : Nat} (hv : v < N) : -1 ≤ D.getD v 0 ∧ D.getD v 0 ≤ (s : Int) + 1 := by
  rw [h v hv]
  unfold dstP
  have := dst_or G to s v
  split
  · omega
  · split <;> omega
/-- Whether an edge leads nearer, and how. -/
theorem near_at {N F T c : Nat} {k : Int} {D : List Int} {f : Int → Int} (hD : Reads N D f) (hF : F < N) (hT : T < N) (hc : c < N) (hne : F ≠ T) :
    (c = F → nearB f c ⟨k, F, T⟩ = (D.getD T 0 == D.getD c 0 - 1) ∧ sgn ⟨k, F, T⟩ c = k + 1 ∧ (oth ⟨k, F, T⟩ c).getD 0 = T) ∧
    (c = T → nearB f c ⟨k, F, T⟩ = (D.getD F 0 == D.getD c 0 - 1) ∧ sgn ⟨k, F, T⟩ c = -k - 1 ∧ (oth ⟨k, F, T⟩ c).getD 0 = F) ∧
    (c ≠ F → c ≠ T → nearB f c ⟨k, F, T⟩ = false) := by
  rw [hD F hF, hD T hT, hD c hc]
  refine ⟨?_, ?_, fun h1 h2 => ?_⟩
  · rintro rfl
    have e : oth ⟨k, c, T⟩ c = some (T : Int) := by unfold oth; rw [if_pos rfl]
    unfold nearB sgn
    rw [e]
    exact ⟨rfl, by rw [if_pos rfl], rfl⟩
  · rintro rfl
    have e : oth ⟨k, F, c⟩ c = some (F : Int) := by unfold oth; rw [if_neg (by dsimp only; omega), if_pos rfl]
    unfold nearB sgn
    rw [e]
    exact ⟨rfl, by rw [if_neg (by dsimp only; omega)], rfl⟩
  · have e : oth ⟨k, F, T⟩ c = none := by unfold oth; rw [if_neg (by dsimp only; omega), if_neg (by dsimp only; omega)]
    unfold nearB
    rw [e]
theorem walkF_succ {G : List Ed} {d : Int → Int} {s : Nat} {a : Int} {i : Nat} (hi : i < G.length) (h1 : nearB d a (G.getD i eNone) = true) (h2 : ∀ j, j < i → nearB d a (G.getD j eNone) = false) :
    walkF G d (s + 1) a = sgn (G.getD i eNone) a :: walkF G d s ((oth (G.getD i eNone) a).getD 0) := by
  have e : walkF G d (s + 1) a = match G.find? (nearB d a) with | some e => sgn e a :: walkF G d s ((oth e a).getD 0) | none => [] := rfl
  rw [e, find_first hi h1 h2]
theorem dst_zero_at {G : List Ed} {N : Nat} {to v : Int} (h : dst G to N v = 0) : v = to := by
  have hl := Lv.of_dst (G := G) (to := to) (s := N) (v := v) (by omega)
  rw [h] at hl
  exact Lv.zero.1 hl
theorem dst_to {G : List Ed} {N : Nat} {to : Int} : dst G to N to = 0 := (Lv.zero.2 (rfl : to = to) : Lv G to 0 to).at_ (Nat.zero_le N)
set_option maxRecDepth 100000 in
set_option maxHeartbeats 6400000 in
theorem l04Walk_any (bm om : Nat) (N : Nat) (A : Option Addr) (cp : Nat) (xs : List Aw) (AE : Option Addr) (ce : Nat) (es : List Int) (a to : Nat) (w : World) (hI : Recs encA 7 w.heap.size w A xs) (hm : mineB (N : Int) xs = true) (hE : Ints w.heap.size w AE es) (hok : IdxOk xs.length es) (hel : es.length ≤ 24) (ha : a < N) (hto : to < N)
    (m0 : w.cell? ⟨bm, om, none⟩ = some (.int .i64 (N : Int))) (mm : w.cell? ⟨bm, om + 1, none⟩ = some (.slice A xs.length cp)) :
    Calls Tryz.prog 145 #[.pointer (some ⟨bm, om, none⟩), .slice AE es.length ce, .int .i64 (a : Int), .int .i64 (to : Int)] w fun e w' => ∃ u, e = .returned (.tuple #[u, .bool (pathF N (edsA xs es) a to).2]) ∧ Own w.heap.size w' u (pathF N (edsA xs es) a to).1 ∧ Below w.heap.size w w' := by
  obtain ⟨R, hR⟩ : ∃ R, R = pathF N (edsA xs es) a to := ⟨_, rfl⟩
  rw [← hR]
  have HR := Lib.hid hR
  clear hR
  obtain ⟨⟨n1, n2⟩, nx, _⟩ := mineB_bd hm
  have HE := Lib.hid (fun p (hp : p < xs.length) => mine_ends hm hp)
  have HK := Lib.hid hok
  have HGL := Lib.hid (edsA_length xs es)
  have J0 := Lib.hid hI
  have JE := Lib.hid hE
  have hbm : bm < w.heap.size := World.block_lt_of_cell? _ _ m0
  have hN1 : 1 ≤ N := by omega
  have hN2 : N ≤ 16 := by omega
  have hxn : xs.length ≤ 24 := by omega
  obtain ⟨i0, hi, hz0, hz1, hz2⟩ := info_parts infoI
  have HF := Lib.hid (And.intro hi (And.intro hz0 (And.intro hz1 hz2)))
  have M0 := Lib.hid m0
  have M1 := Lib.hid mm
  clear hI hm hE hok n1 n2 nx hi hz0 hz1 hz2 m0 mm
  go_enter Tryz.func145, Tryz.ntmps145
  go_wp2
  go_loopw [10, 11] (fun u ii wr => ∃ q : Nat, q ≤ N ∧ ii = .int .i64 q ∧ Below w.heap.size w wr ∧ Own w.heap.size wr u (List.replicate q (-1))) (fun _ ii _ => N - (intOf ii).toNat)
  case atStart => exact ⟨0, Nat.zero_le _, rfl, (Below.refl _ _).alloc (Nat.le_refl _) _, Own.empty (Nat.le_refl _)⟩
  case round =>
    obtain ⟨q, hq, rfl, hb, ho⟩ := hrel
    have m0 := cell_later hb M0.out
    have m1 := cell_later hb M1.out
    have hsz := hb.size
    by_cases hlt : q < N
    · have HO := Lib.hid ho
      have hl : (List.replicate q (-1 : Int)).length ≤ 16 := by simp; omega
      have HS : Hid (List.replicate (q + 1) (-1 : Int) = List.replicate q (-1) ++ [-1]) := Lib.hid List.replicate_succ'
      clear ho
      go_wp2_with (at_builtin; refine wpList_append_own_at _ rfl _ _ 25 rfl w.heap.size 2 i0 (.int .i64 0) 1 8 Tryz.underlying25 HF.out.1 HF.out.2.1 HF.out.2.2.1 HF.out.2.2.2 rfl (by decide) _ _ _ rfl (HO.out.later ((Below.refl _ _).alloc (Nat.le_refl _) _)) ⟨wr.heap.size, 0, none⟩ 1 1 [.int .i64 (-1)] rfl rfl (cell_one_new _ _ _) (by intro u hu; simp at hu; subst hu; rfl) (le_max (by omega)) (by omega) (by simp; omega) ?_; intro av aw ah ag an aa)
      have hbe2 : Below w.heap.size w aw := Below.appended hb HO.out hsz ag
      have ho' := Own.appended ah
      clear ah ag an aa
      have HO3 := Lib.hid ho'
      clear ho'
      go_wp2
      go_roundw
      case rel => exact ⟨q + 1, by omega, by go_num, hbe2, by rw [HS.out]; exact HO3.out⟩
      case measure => simp [intOf]; omega
    · obtain rfl : q = N := by omega
      obtain ⟨AV, cv, hv, -, -⟩ := ho.slice
      rw [List.length_replicate] at hv
      subst hv
      obtain ⟨g, rfl, hg1, hrow⟩ := ho.row (n := q) (by omega) (by simp)
      have hco : wr.cell? ⟨g, to, none⟩ = some (.int .i64 (-1)) := by
        rw [row_cell hrow (by simp) hto]
        simp [List.getD, hto]
      have hfz := row_free hrow to
      have HRow := Lib.hid hrow
      have hai : (to : Int) < q := by omega
      have ha0 : (0 : Int) ≤ (to : Int) := by omega
      have HBw := Lib.hid hb
      obtain ⟨wq, hwq⟩ : ∃ wq : World, wq = wr := ⟨_, rfl⟩
      subst hwq
      clear ho hrow
      go_wp2
      go_loopw [12] (fun kk wo => ∃ (r : Nat) (d : List Int), r ≤ q ∧ kk = .int .i64 r ∧ d.length = q ∧ Reads q d (dst (edsA xs es) to r) ∧ Below w.heap.size w wo ∧ wo.ownsRow w.heap.size 2 1 (.slice (some ⟨g, 0, none⟩) q cv) q (vals d)) (fun kk _ => q - (intOf kk).toNat)
      case atStart =>
        obtain ⟨r1, _⟩ := World.ownsRow.stored HRow.out to (.int .i64 0)
        rw [vals_set] at r1
        exact ⟨0, _, Nat.zero_le _, rfl, by simp, reads_start hto, HBw.out.setCell (by simpa using hg1) _, r1⟩
      case round =>
        obtain ⟨r, d, hr, rfl, hdl, hdr, hb, hown⟩ := hrel
        have HD := Lib.hid hdl
        have HDR := Lib.hid hdr
        have HO := Lib.hid hown
        clear hdl hdr hown hco hfz
        have m0 := cell_later hb M0.out
        have m1 := cell_later hb M1.out
        obtain ⟨wo, hwo⟩ : ∃ wo : World, wo = wr := ⟨_, rfl⟩
        subst hwo
        by_cases hlt : r < q
        · have hlti : (r : Int) < (q : Int) := by omega
          have hltb : decide ((r : Int) < (q : Int)) = true := decide_eq_true hlti
          go_wp2
          go_loopw [13] (fun ii wi => ∃ (i : Nat) (D : List Int), i ≤ es.length ∧ ii = .int .i64 i ∧ D.length = q ∧ Reads q D (dstP (edsA xs es) to r i) ∧ Below w.heap.size w wi ∧ wi.ownsRow w.heap.size 2 1 (.slice (some ⟨g, 0, none⟩) q cv) q (vals D)) (fun ii _ => es.length - (intOf ii).toNat)
          case atStart => exact ⟨0, d, Nat.zero_le _, rfl, HD.out, fun v hv => by rw [dstP_zero]; exact HDR.out v hv, hb, HO.out⟩
          case round =>
            obtain ⟨i, D, hi, rfl, hDl, hDr, hbw, howni⟩ := hrel
            have m0 := cell_later hbw M0.out
            have m1 := cell_later hbw M1.out
            by_cases hil : i < es.length
            · have hgw : g < wr.heap.size := row_lt howni
              obtain ⟨p, hp, hpx⟩ := HK.out i hil
              obtain ⟨F, T, hF, hT, hFN, hTN, hne⟩ := HE.out p hpx
              obtain ⟨ad, hAE, hadb, ce0⟩ := (JE.out.below hbw).atD hil
              rw [hp] at ce0
              subst hAE
              obtain ⟨⟨s, f, t, l, c, rr, k⟩, hx⟩ : ∃ x, xs.getD p aNone = x := ⟨_, rfl⟩
              obtain ⟨b, o, hA, hab, -, c1, c2, -⟩ := (J0.out.below hbw).cells7 hpx hx
              subst hA
              have hed : (edsA xs es).getD i eNone = ⟨(p : Int), (F : Int), (T : Int)⟩ := by
                rw [edsA_get hil]; unfold edA; rw [hp, Int.toNat_natCast, hF, hT]
              rw [hx] at hF hT
              have hF : f = (F : Int) := hF
              have hT : t = (T : Int) := hT
              subst hF hT
              obtain ⟨sA, sC, sN⟩ := pass_step (by rw [HGL.out]; exact hil) hed hDl hFN hTN hDr
              have hcf := row_cell howni hDl hFN
              have hct := row_cell howni hDl hTN
              obtain ⟨x1, x2⟩ := reads_bd hDr hFN
              obtain ⟨y1, y2⟩ := reads_bd hDr hTN
              have hff : ∀ z, wr.frozen? ⟨g, z, none⟩ = false := fun z => row_free howni z
              have HSA := Lib.hid sA
              have HSC := Lib.hid sC
              have HSN := Lib.hid sN
              have HOI := Lib.hid howni
              have HDL := Lib.hid hDl
              have hi0 : (0 : Int) ≤ (i : Int) := by omega
              have hi1 : (i : Int) < es.length := by omega
              have hp0 : (0 : Int) ≤ (p : Int) := by omega
              have hp1 : (p : Int) < xs.length := by omega
              have hF0 : (0 : Int) ≤ (F : Int) := by omega
              have hF1 : (F : Int) < q := by omega
              have hT0 : (0 : Int) ≤ (T : Int) := by omega
              have hT1 : (T : Int) < q := by omega
              have hne' : ¬ T = F := fun e => hne e.symm
              clear sA sC sN howni hDl hDr hx hed hp
              generalize D.getD F 0 = x at *
              generalize D.getD T 0 = y at *
              have k1 : ∀ n v z, ((wr.drewN n).setCell ⟨g, z, none⟩ v).cell? ⟨b, o + p * 7 + 1, none⟩ = some (.int .i64 (F : Int)) := fun n v z => (World.cell?_setCell_other _ _ _ _ (fun e => by have := congrArg Addr.block e; simp at this; omega)).trans c1
              have k2 : ∀ n v z, ((wr.drewN n).setCell ⟨g, z, none⟩ v).cell? ⟨b, o + p * 7 + 2, none⟩ = some (.int .i64 (T : Int)) := fun n v z => (World.cell?_setCell_other _ _ _ _ (fun e => by have := congrArg Addr.block e; simp at this; omega)).trans c2
              have hwr : IntKind.i64.wrap ((r : Int) + 1) = (r : Int) + 1 := IntWalk.i64_in _ (by omega)
              by_cases hxs : x = (r : Int)
              · have hxb : (x == (r : Int)) = true := by rw [beq_iff_eq]; exact hxs
                by_cases hy0 : y < 0
                · skip
                  have hyb : decide (y < 0) = true := decide_eq_true hy0
                  have hzb : ((r : Int) + 1 == (r : Int)) = false := by rw [beq_eq_false_iff_ne]; omega
                  have E1 := Lib.hid (HSA.out hxs hy0)
                  clear HSA HSC HSN
                  go_wp2
                  go_big_quiet (fail)
                  go_wp2
                  go_roundw
                  case rel => exact ⟨i + 1, D.set T ((r : Int) + 1), by omega, by go_num, by rw [List.length_set]; exact HDL.out, E1.out, (fit_set (fit_drew ⟨hbw, HOI.out⟩ _) hg1 _ _).1, (fit_set (fit_drew ⟨hbw, HOI.out⟩ _) hg1 _ _).2⟩
                  case measure => simp [intOf]; omega
                · have hyb : decide (y < 0) = false := decide_eq_false hy0
                  by_cases hys : y = (r : Int)
                  · skip
                    have hyb2 : (y == (r : Int)) = true := by rw [beq_iff_eq]; exact hys
                    have hxb2 : decide (x < 0) = false := decide_eq_false (by omega)
                    have E1 := Lib.hid (HSN.out (by omega) (by omega))
                    clear HSA HSC HSN
                    go_wp2
                    go_big_quiet (fail)
                    go_wp2
                    go_roundw
                    case rel => exact ⟨i + 1, D, by omega, by go_num, HDL.out, E1.out, (fit_drew ⟨hbw, HOI.out⟩ _).1, (fit_drew ⟨hbw, HOI.out⟩ _).2⟩
                    case measure => simp [intOf]; omega
                  · skip
                    have hyb2 : (y == (r : Int)) = false := by rw [beq_eq_false_iff_ne]; exact hys
                    have E1 := Lib.hid (HSN.out (by omega) (by omega))
                    clear HSA HSC HSN
                    go_wp2
                    go_big_quiet (fail)
                    go_wp2
                    go_roundw
                    case rel => exact ⟨i + 1, D, by omega, by go_num, HDL.out, E1.out, (fit_drew ⟨hbw, HOI.out⟩ _).1, (fit_drew ⟨hbw, HOI.out⟩ _).2⟩
                    case measure => simp [intOf]; omega
              · have hxb : (x == (r : Int)) = false := by rw [beq_eq_false_iff_ne]; exact hxs
                by_cases hys : y = (r : Int)
                · have hyb2 : (y == (r : Int)) = true := by rw [beq_iff_eq]; exact hys
                  by_cases hx0 : x < 0
                  · skip
                    have hxb2 : decide (x < 0) = true := decide_eq_true hx0
                    have E1 := Lib.hid (HSC.out (by omega) hys hx0)
                    clear HSA HSC HSN
                    go_wp2
                    go_big_quiet (fail)
                    go_wp2
                    go_roundw
                    case rel => exact ⟨i + 1, D.set F ((r : Int) + 1), by omega, by go_num, by rw [List.length_set]; exact HDL.out, E1.out, (fit_set (fit_drew ⟨hbw, HOI.out⟩ _) hg1 _ _).1, (fit_set (fit_drew ⟨hbw, HOI.out⟩ _) hg1 _ _).2⟩
                    case measure => simp [intOf]; omega
                  · skip
                    have hxb2 : decide (x < 0) = false := decide_eq_false hx0
                    have E1 := Lib.hid (HSN.out (by omega) (by omega))
                    clear HSA HSC HSN
                    go_wp2
                    go_big_quiet (fail)
                    go_wp2
                    go_roundw
                    case rel => exact ⟨i + 1, D, by omega, by go_num, HDL.out, E1.out, (fit_drew ⟨hbw, HOI.out⟩ _).1, (fit_drew ⟨hbw, HOI.out⟩ _).2⟩
                    case measure => simp [intOf]; omega
                · skip
                  have hyb2 : (y == (r : Int)) = false := by rw [beq_eq_false_iff_ne]; exact hys
                  have E1 := Lib.hid (HSN.out (by omega) (by omega))
                  clear HSA HSC HSN
                  go_wp2
                  go_big_quiet (fail)
                  go_wp2
                  go_roundw
                  case rel => exact ⟨i + 1, D, by omega, by go_num, HDL.out, E1.out, (fit_drew ⟨hbw, HOI.out⟩ _).1, (fit_drew ⟨hbw, HOI.out⟩ _).2⟩
                  case measure => simp [intOf]; omega
            · obtain rfl : i = es.length := by omega
              have HOI := Lib.hid howni
              have HDX := Lib.hid hDl
              have HDY : Hid (Reads q D (dst (edsA xs es) to (r + 1))) := Lib.hid (fun v hv => by rw [hDr v hv, ← HGL.out, dstP_all])
              clear howni hDl hDr
              go_wp2
              go_roundw
              case rel => exact ⟨r + 1, D, by omega, by go_num, HDX.out, HDY.out, hbw, HOI.out⟩
              case measure => simp [intOf]; omega
        · obtain rfl : r = q := by omega
          have hca := row_cell HO.out HD.out ha
          have hva := HDR.out a ha
          have hbd := dst_or (edsA xs es) to r a
          rw [← hva] at hbd
          have hgw : g < wo.heap.size := row_lt HO.out
          have hai2 : (a : Int) < r := by omega
          have ha02 : (0 : Int) ≤ (a : Int) := by omega
          have HVA := Lib.hid hva
          clear hva
          generalize hxa : d.getD a 0 = x at *
          by_cases hx0 : x < 0
          · have HN : Hid (R = ([], false)) := Lib.hid (by rw [HR.out]; unfold pathF; rw [if_neg (by rw [← HVA.out]; omega)])
            clear hxa
            go_wp2
            go_ret2
            refine ⟨.slice none 0 0, ret_vb (by rw [HN.out]), ?_, hb⟩
            rw [HN.out]; exact Own.nil_ _ _
          have hx0b : decide (x < 0) = false := decide_eq_false hx0
          have HN : Hid (R = (walkF (edsA xs es) (dst (edsA xs es) to r) x.toNat a, true)) := Lib.hid (by rw [HR.out]; unfold pathF; rw [if_pos (by rw [← HVA.out]; omega), ← HVA.out])
          clear hxa
          go_wp2
          go_loopw [15, 16] (fun u at_ wo2 => ∃ (c m : Nat) (ys : List Int), c < r ∧ at_ = .int .i64 c ∧ dst (edsA xs es) to r c = m ∧ m ≤ 16 ∧ ys.length + m ≤ 16 ∧ ys ++ walkF (edsA xs es) (dst (edsA xs es) to r) m c = R.1 ∧ Below w.heap.size w wo2 ∧ wo.heap.size ≤ wo2.heap.size ∧ wo2.ownsRow w.heap.size 2 1 (.slice (some ⟨g, 0, none⟩) r cv) r (vals d) ∧ Own wo.heap.size wo2 u ys) (fun _ at_ _ => (dst (edsA xs es) to r (intOf at_)).toNat)
          case atStart =>
            refine ⟨a, x.toNat, [], ha, rfl, by rw [← HVA.out]; omega, by omega, by simp; omega, by rw [HN.out]; rfl, hb.alloc hb.size _, by simp, World.ownsRow.alloc HO.out _, Own.empty (Nat.le_refl _)⟩
          case round =>
            obtain ⟨c, m, ys, hc, rfl, hcm, hm16, hym, hR, hb4, hsz4, hrow, hou⟩ := hrel
            obtain ⟨wp, hwp⟩ : ∃ wp : World, wp = wr := ⟨_, rfl⟩
            subst hwp
            have HRX := Lib.hid hR
            have HCM := Lib.hid hcm
            have HRW := Lib.hid hrow
            have HOU := Lib.hid hou
            clear hR hcm hrow hou
            by_cases hct : c = to
            · subst hct
              have hm0 : m = 0 := by
                have h := HCM.out
                rw [dst_to] at h; omega
              have HE2 : Hid (R.1 = ys) := Lib.hid (by
                rw [← HRX.out, hm0]; unfold walkF; simp)
              go_wp2
              go_ret2
              refine ⟨_, ret_vb (by rw [HN.out]), ?_, hb4⟩
              rw [HE2.out]
              exact HOU.out.base (fun g' h => by have := (World.ownsRow.lt HOU.out g' h).1; have := hb.size; omega)
            · have hctb : ((c : Int) != (to : Int)) = true := by rw [bne_iff_ne]; omega
              have hm1 : m ≠ 0 := fun e => hct (by
                have h := HCM.out
                rw [e] at h
                have := dst_zero_at h; omega)
              obtain ⟨m', rfl⟩ : ∃ m', m = m' + 1 := ⟨m - 1, by omega⟩
              obtain ⟨j, hj, hn1, hn2⟩ := near_some HCM.out
              have HJ1 := Lib.hid hn1
              have HJ2 := Lib.hid hn2
              have hj : j < es.length := by rw [← HGL.out]; exact hj
              have HWS := Lib.hid (walkF_succ (s := m') (by rw [HGL.out]; exact hj) hn1 hn2)
              clear hn1 hn2
              go_wp2
              go_loopw [15, 16, 17] (fun uu aa ii wi => ∃ i : Nat, i ≤ j ∧ uu = u15 ∧ aa = .int .i64 c ∧ ii = .int .i64 i ∧ ∃ n, wp.drewN n = wi) (fun _ _ ii _ => es.length - (intOf ii).toNat)
              case atStart => exact ⟨0, Nat.zero_le _, rfl, rfl, rfl, 0, rfl⟩
              case round =>
                obtain ⟨i, hi, rfl, rfl, rfl, n, rfl⟩ := hrel
                have hil : i < es.length := by omega
                have m1 := cell_later hb4 M1.out
                obtain ⟨p, hp, hpx⟩ := HK.out i hil
                obtain ⟨F, T, hF, hT, hFN, hTN, hne⟩ := HE.out p hpx
                obtain ⟨ad, hAE, hadb, ce0⟩ := (JE.out.below hb4).atD hil
                rw [hp] at ce0
                subst hAE
                obtain ⟨⟨s, f, t, l, ca, rr, k⟩, hx⟩ : ∃ x, xs.getD p aNone = x := ⟨_, rfl⟩
                obtain ⟨b, o, hA, hab, -, C1w, C2w, -⟩ := J0.out.cells7 hpx hx
                subst hA
                have c1 := (hb4.cell (p := ⟨b, o + p * 7 + 1, none⟩) hab).trans C1w
                have c2 := (hb4.cell (p := ⟨b, o + p * 7 + 2, none⟩) hab).trans C2w
                have hed : (edsA xs es).getD i eNone = ⟨(p : Int), (F : Int), (T : Int)⟩ := by
                  rw [edsA_get hil]; unfold edA; rw [hp, Int.toNat_natCast, hF, hT]
                rw [hx] at hF hT
                have hF : f = (F : Int) := hF
                have hT : t = (T : Int) := hT
                subst hF hT
                obtain ⟨nF, nT, nO⟩ := near_at (k := (p : Int)) HDR.out hFN hTN hc hne
                have hrw := HRW.out
                have hcf := row_cell hrw HD.out hFN
                have hct := row_cell hrw HD.out hTN
                have hcc := row_cell hrw HD.out hc
                have hdF := dst_or (edsA xs es) to r F
                rw [← HDR.out F hFN] at hdF
                have hdT := dst_or (edsA xs es) to r T
                rw [← HDR.out T hTN] at hdT
                have hdC := HCM.out
                rw [← HDR.out c hc] at hdC
                have HDF := Lib.hid (HDR.out F hFN)
                have HDT := Lib.hid (HDR.out T hTN)
                have HIJ : Hid (i < j → nearB (dst (edsA xs es) to r) c ⟨(p : Int), (F : Int), (T : Int)⟩ = false) := Lib.hid (fun h => by rw [← hed]; exact HJ2.out i h)
                have HIE : Hid (i = j → nearB (dst (edsA xs es) to r) c ⟨(p : Int), (F : Int), (T : Int)⟩ = true ∧ walkF (edsA xs es) (dst (edsA xs es) to r) (m' + 1) c = sgn ⟨(p : Int), (F : Int), (T : Int)⟩ c :: walkF (edsA xs es) (dst (edsA xs es) to r) m' ((oth ⟨(p : Int), (F : Int), (T : Int)⟩ c).getD 0)) := Lib.hid (by
                  rintro rfl
                  rw [← hed]
                  exact ⟨HJ1.out, HWS.out⟩)
                have HNF := Lib.hid nF
                have HNT := Lib.hid nT
                have HNO := Lib.hid nO
                have hi0 : (0 : Int) ≤ (i : Int) := by omega
                have hi1 : (i : Int) < es.length := by omega
                have hp0 : (0 : Int) ≤ (p : Int) := by omega
                have hp1 : (p : Int) < xs.length := by omega
                have hF0 : (0 : Int) ≤ (F : Int) := by omega
                have hF1 : (F : Int) < r := by omega
                have hT0 : (0 : Int) ≤ (T : Int) := by omega
                have hT1 : (T : Int) < r := by omega
                have hC0 : (0 : Int) ≤ (c : Int) := by omega
                have hC1 : (c : Int) < r := by omega
                have hyl : ys.length ≤ 16 := by omega
                have hszn : w.heap.size ≤ wp.heap.size := hb4.size
                have C1H := Lib.hid C1w
                have C2H := Lib.hid C2w
                clear hrw nF nT nO hed hx hp C1w C2w
                generalize d.getD F 0 = x at *
                generalize d.getD T 0 = y at *
                generalize d.getD c 0 = z at *
                have hwz : IntKind.i64.wrap (z - 1) = z - 1 := IntWalk.i64_in _ (by omega)
                by_cases hcF : c = F
                · obtain ⟨e1, e2, e3⟩ := HNF.out hcF
                  by_cases hij : i < j
                  · have h5 := HIJ.out hij
                    rw [e1] at h5
                    clear e1 e2 e3
                    have hfe : ((F : Int) == (c : Int)) = true := by rw [beq_iff_eq]; omega
                    have hte : ((T : Int) == (c : Int)) = false := by rw [beq_eq_false_iff_ne]; omega
                    have h6 : (y == z - 1) = false := h5
                    clear hcF
                    clear HNF HNT HNO HIE HIJ HDF HDT
                    go_wp2
                    go_big_quiet (fail)
                    go_wp2
                    go_big_quiet (fail)
                    go_wp2
                    go_big_quiet (fail)
                    go_wp2
                    go_roundw
                    case rel => exact ⟨i + 1, by omega, rfl, rfl, by go_num, _, by first | rfl | exact (World.drewN_drewN _ _ _).symm⟩
                    case measure => simp [intOf]; omega
                  · obtain ⟨h5, h6⟩ := HIE.out (by omega)
                    rw [e1] at h5
                    rw [e2, e3] at h6
                    have H6 := Lib.hid h6
                    clear e1 e2 e3 h6 HNF HNT HNO HIE HIJ
                    have hfe : ((F : Int) == (c : Int)) = true := by rw [beq_iff_eq]; omega
                    have h7 : (y == z - 1) = true := h5
                    clear hcF
                    go_wp2
                    go_big_quiet (fail)
                    go_wp2
                    go_big_quiet (fail)
                    generalize hwd : World.drewN (World.drewN (World.drewN wp _) _) _ = wd
                    have hpd : Below wp.heap.size wp wd := by rw [← hwd]; exact below_drewN (below_drewN (below_drewN (Below.refl _ _) _) _) _
                    have hrd : wd.ownsRow w.heap.size 2 1 (.slice (some ⟨g, 0, none⟩) r cv) r (vals d) := by rw [← hwd]; exact drewN_row (drewN_row (drewN_row HRW.out _) _) _
                    have HOd := Lib.hid (HOU.out.later hpd)
                    have HBD := Lib.hid (hb4.trans (hpd.mono hb4.size))
                    have hszd : wo.heap.size ≤ wd.heap.size := Nat.le_trans hsz4 hpd.size
                    have hszw : w.heap.size ≤ wd.heap.size := HBD.out.size
                    have HOw : Hid (Own w.heap.size wd u15 ys) := Lib.hid (HOd.out.base (fun g' h => by have := (World.ownsRow.lt HOd.out g' h).1; have := hb.size; omega))
                    have HRD := Lib.hid hrd
                    have m1d := cell_later hpd m1
                    have ced := cell_later hpd ce0
                    have ccd := cell_later hpd c2
                    clear hwd hpd hrd m0 m1 ce0 c1 c2 hcf hct hcc
                    have hq2 : dst (edsA xs es) to r (T : Int) = m' := by
                      have h1 := HDT.out
                      have h2 : y = z - 1 := by rw [beq_iff_eq] at h7; exact h7
                      omega
                    have HQ2 := Lib.hid hq2
                    clear hq2
                    go_wp2_with ((at_builtin; refine wpList_append_own_at _ rfl _ _ 25 rfl wo.heap.size 2 i0 (.int .i64 0) 1 8 Tryz.underlying25 HF.out.1 HF.out.2.1 HF.out.2.2.1 HF.out.2.2.2 rfl (by decide) _ _ _ rfl (HOd.out.later ((Below.refl _ _).alloc (Nat.le_refl _) _)) ⟨wd.heap.size, 0, none⟩ 1 1 [.int .i64 ((p : Int) + 1)] rfl rfl (cell_one_new _ _ _) (by intro u hu; simp at hu; subst hu; rfl) (le_max (by omega)) (by omega) (by simp; omega) ?_; intro av aw ah ag an aa); have hbe2 : Below w.heap.size w aw := Below.appended HBD.out HOw.out hszw ag; have m1a := cell_later hbe2 M1.out; have cca : aw.cell? ⟨b, o + p * 7 + 2, none⟩ = some (.int .i64 (T : Int)) := (hbe2.cell (p := ⟨b, o + p * 7 + 2, none⟩) hab).trans C2H.out)
                    have hra : aw.ownsRow w.heap.size 2 1 (.slice (some ⟨g, 0, none⟩) r cv) r (vals d) := World.ownsRow.kept (World.ownsRow.alloc HRD.out _) ag (.inr (fun e => by have := (World.ownsRow.lt HOd.out g e.symm).1; omega))
                    have ho' := Own.appended ah
                    have hsza : wo.heap.size ≤ aw.heap.size := by have := ag.size; simp at this; omega
                    clear ah ag an aa
                    go_roundw
                    case rel => exact ⟨T, m', ys ++ [(p : Int) + 1], hTN, rfl, HQ2.out, by omega, by simp; omega, by rw [List.append_assoc, List.singleton_append, ← H6.out]; exact HRX.out, hbe2, hsza, hra, ho'⟩
                    case measure => have q1 := HCM.out; have q2 := HQ2.out; simp [intOf, q1, q2] <;> omega
                · by_cases hcT : c = T
                  · obtain ⟨e1, e2, e3⟩ := HNT.out hcT
                    by_cases hij : i < j
                    · have h5 := HIJ.out hij
                      rw [e1] at h5
                      clear e1 e2 e3
                      have hfe : ((F : Int) == (c : Int)) = false := by rw [beq_eq_false_iff_ne]; omega
                      have hte : ((T : Int) == (c : Int)) = true := by rw [beq_iff_eq]; omega
                      have h6 : (x == z - 1) = false := h5
                      clear hcT
                      clear HNF HNT HNO HIE HIJ HDF HDT
                      go_wp2
                      go_big_quiet (fail)
                      go_wp2
                      go_big_quiet (fail)
                      go_wp2
                      go_big_quiet (fail)
                      go_wp2
                      go_roundw
                      case rel => exact ⟨i + 1, by omega, rfl, rfl, by go_num, _, by first | rfl | exact (World.drewN_drewN _ _ _).symm⟩
                      case measure => simp [intOf]; omega
                    · obtain ⟨h5, h6⟩ := HIE.out (by omega)
                      rw [e1] at h5
                      rw [e2, e3] at h6
                      have H6 := Lib.hid h6
                      clear e1 e2 e3 h6 HNF HNT HNO HIE HIJ
                      have hfe : ((F : Int) == (c : Int)) = false := by rw [beq_eq_false_iff_ne]; omega
                      have hte : ((T : Int) == (c : Int)) = true := by rw [beq_iff_eq]; omega
                      have h7 : (x == z - 1) = true := h5
                      clear hcT
                      go_wp2
                      go_big_quiet (fail)
                      go_wp2
                      go_big_quiet (fail)
                      go_wp2
                      go_big_quiet (fail)
                      generalize hwd : World.drewN (World.drewN (World.drewN (World.drewN wp _) _) _) _ = wd
                      have hpd : Below wp.heap.size wp wd := by rw [← hwd]; exact below_drewN (below_drewN (below_drewN (below_drewN (Below.refl _ _) _) _) _) _
                      have hrd : wd.ownsRow w.heap.size 2 1 (.slice (some ⟨g, 0, none⟩) r cv) r (vals d) := by rw [← hwd]; exact drewN_row (drewN_row (drewN_row (drewN_row HRW.out _) _) _) _
                      have HOd := Lib.hid (HOU.out.later hpd)
                      have HBD := Lib.hid (hb4.trans (hpd.mono hb4.size))
                      have hszd : wo.heap.size ≤ wd.heap.size := Nat.le_trans hsz4 hpd.size
                      have hszw : w.heap.size ≤ wd.heap.size := HBD.out.size
                      have HOw : Hid (Own w.heap.size wd u15 ys) := Lib.hid (HOd.out.base (fun g' h => by have := (World.ownsRow.lt HOd.out g' h).1; have := hb.size; omega))
                      have HRD := Lib.hid hrd
                      have m1d := cell_later hpd m1
                      have ced := cell_later hpd ce0
                      have ccd := cell_later hpd c1
                      clear hwd hpd hrd m0 m1 ce0 c1 c2 hcf hct hcc
                      have hq2 : dst (edsA xs es) to r (F : Int) = m' := by
                        have h1 := HDF.out
                        have h2 : x = z - 1 := by rw [beq_iff_eq] at h7; exact h7
                        omega
                      have HQ2 := Lib.hid hq2
                      clear hq2
                      go_wp2_with ((at_builtin; refine wpList_append_own_at _ rfl _ _ 25 rfl wo.heap.size 2 i0 (.int .i64 0) 1 8 Tryz.underlying25 HF.out.1 HF.out.2.1 HF.out.2.2.1 HF.out.2.2.2 rfl (by decide) _ _ _ rfl (HOd.out.later ((Below.refl _ _).alloc (Nat.le_refl _) _)) ⟨wd.heap.size, 0, none⟩ 1 1 [.int .i64 (-(p : Int) - 1)] rfl rfl (cell_one_new _ _ _) (by intro u hu; simp at hu; subst hu; rfl) (le_max (by omega)) (by omega) (by simp; omega) ?_; intro av aw ah ag an aa); have hbe2 : Below w.heap.size w aw := Below.appended HBD.out HOw.out hszw ag; have m1a := cell_later hbe2 M1.out; have cca : aw.cell? ⟨b, o + p * 7 + 1, none⟩ = some (.int .i64 (F : Int)) := (hbe2.cell (p := ⟨b, o + p * 7 + 1, none⟩) hab).trans C1H.out)
                      have hra : aw.ownsRow w.heap.size 2 1 (.slice (some ⟨g, 0, none⟩) r cv) r (vals d) := World.ownsRow.kept (World.ownsRow.alloc HRD.out _) ag (.inr (fun e => by have := (World.ownsRow.lt HOd.out g e.symm).1; omega))
                      have ho' := Own.appended ah
                      have hsza : wo.heap.size ≤ aw.heap.size := by have := ag.size; simp at this; omega
                      clear ah ag an aa
                      go_roundw
                      case rel => exact ⟨F, m', ys ++ [-(p : Int) - 1], hFN, rfl, HQ2.out, by omega, by simp; omega, by rw [List.append_assoc, List.singleton_append, ← H6.out]; exact HRX.out, hbe2, hsza, hra, ho'⟩
                      case measure => have q1 := HCM.out; have q2 := HQ2.out; simp [intOf, q1, q2] <;> omega
                  · have e1 := HNO.out hcF hcT
                    have hij : i < j := by
                      rcases Nat.lt_or_ge i j with h | h
                      · exact h
                      · have h2 := (HIE.out (by omega)).1
                        rw [e1] at h2; cases h2
                    clear e1
                    have hfe : ((F : Int) == (c : Int)) = false := by rw [beq_eq_false_iff_ne]; omega
                    have hte : ((T : Int) == (c : Int)) = false := by rw [beq_eq_false_iff_ne]; omega
                    clear HNF HNT HNO HIE HIJ HDF HDT
                    go_wp2
                    go_big_quiet (fail)
                    go_wp2
                    go_big_quiet (fail)
                    go_wp2
                    go_big_quiet (fail)
                    go_wp2
                    go_roundw
                    case rel => exact ⟨i + 1, by omega, rfl, rfl, by go_num, _, by first | rfl | exact (World.drewN_drewN _ _ _).symm⟩
                    case measure => simp [intOf]; omega
end Go.Proofs.YtejkoicgbgoiaaaGreat
