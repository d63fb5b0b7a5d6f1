/- Proved here: the parts Stru, Name, Airway, Airs, Frame5, Mine of the row's proof, joined by a program. Conditions: as each part says. -/
import Derived.Test.YtejkoicgbgoiaaaGreatFm1
import Derived.PlainAid
import Derived.Lib.Hide
import Derived.Handy
import Derived.IntWalk
import Derived.BigQuiet
import Derived.Deep.Slices
import Derived.Deep.Fields
import Derived.ChangeSame
/- Lists of structs of plain cells: what such a list is in memory; a row of the call's own. No conditions. -/
namespace Go.Proofs.YtejkoicgbgoiaaaGreat
open Go.RowKit
open Pl
section
variable {α : Type}
/-- 'Recs enc s B w A xs': from address A on lie the cells of the structs xs, s cells each, in a block below B. -/
def Recs (enc : α → List Value) (s : Nat) (B : Nat) (w : World) (A : Option Addr) (xs : List α) : Prop :=
  0 < xs.length → ∃ b o, A = some ⟨b, o, none⟩ ∧ b < B ∧ ∀ k (h : k < xs.length) j u, (enc xs[k])[j]? = some u → w.cell? ⟨b, o + k * s + j, none⟩ = some u
variable {enc : α → List Value} {s B : Nat} {w w' : World} {A : Option Addr} {xs : List α}
theorem Recs.nil : Recs enc s B w A [] := fun h => by simp at h
theorem Recs.below (h : Recs enc s B w A xs) (hb : Below B w w') : Recs enc s B w' A xs := by
  intro hn
  obtain ⟨b, o, e, hlt, hc⟩ := h hn
  exact ⟨b, o, e, hlt, fun k hk j u hu => (hb.cell (p := ⟨b, o + k * s + j, none⟩) hlt).trans (hc k hk j u hu)⟩
theorem Recs.more {B' : Nat} (h : Recs enc s B w A xs) (hB : B ≤ B') : Recs enc s B' w A xs := by
  intro hn
  obtain ⟨b, o, e, hlt, hc⟩ := h hn
  exact ⟨b, o, e, by omega, hc⟩
theorem Recs.at_ (h : Recs enc s B w A xs) {k : Nat} (hk : k < xs.length) : ∃ b o, A = some ⟨b, o, none⟩ ∧ b < B ∧ ∀ j u, (enc xs[k])[j]? = some u → w.cell? ⟨b, o + k * s + j, none⟩ = some u := by
  obtain ⟨b, o, e, hb, hc⟩ := h (by omega)
  exact ⟨b, o, e, hb, hc k hk⟩
theorem Recs.none_nil (h : Recs enc s B w none xs) : xs = [] := by
  cases xs with
  | nil => rfl
  | cons x xs => obtain ⟨b, o, e, _⟩ := h (by simp); cases e

theorem flat_length (he : ∀ x, (enc x).length = s) : ∀ xs : List α, (xs.flatMap enc).length = xs.length * s
  | [] => by simp
  | x :: xs => by rw [List.flatMap_cons, List.length_append, he, flat_length he xs, List.length_cons, Nat.add_mul]; omega
theorem flat_get (he : ∀ x, (enc x).length = s) : ∀ (xs : List α) (k j : Nat) (hk : k < xs.length), j < s → (xs.flatMap enc)[k * s + j]? = (enc xs[k])[j]?
  | x :: xs, 0, j, _, hj => by
    rw [List.flatMap_cons, Nat.zero_mul, Nat.zero_add, List.getElem?_append_left (by rw [he]; exact hj)]; rfl
  | x :: xs, k + 1, j, hk, hj => by
    rw [List.flatMap_cons, List.getElem?_append_right (by rw [he, Nat.add_mul]; omega), he, show (k + 1) * s + j - s = k * s + j by rw [Nat.add_mul]; omega]
    exact flat_get he xs k j (by simpa using hk) hj
/-- A row of the call's own. -/
def OwnR (T : TypeId) (enc : α → List Value) (s : Nat) (base : Nat) (w : World) (v : Value) (xs : List α) : Prop := w.ownsRow base T s v xs.length (xs.flatMap enc)
variable {T : TypeId} {base : Nat} {v : Value}
theorem OwnR.nil_ (base : Nat) (w : World) : OwnR T enc s base w (.slice none 0 0) ([] : List α) := World.ownsRow_nil _ _ _ _
theorem OwnR.form (h : OwnR T enc s base w v xs) :
    (v = .slice none 0 0 ∧ xs = []) ∨ ∃ g c, v = .slice (some ⟨g, 0, none⟩) xs.length c ∧ base ≤ g ∧ g < w.heap.size := by
  rcases h.2 with ⟨rfl, h0⟩ | ⟨g, cap, cur, hv, hb, hg, _⟩
  · exact .inl ⟨rfl, List.eq_nil_of_length_eq_zero h0⟩
  · exact .inr ⟨g, cap, hv, hb, (Array.getElem?_eq_some_iff.1 hg).1⟩
theorem OwnR.slice (he : ∀ x, (enc x).length = s) (h : OwnR T enc s base w v xs) : ∃ A c, v = .slice A xs.length c ∧ Recs enc s w.heap.size w A xs ∧ (∀ ad, A = some ad → ad = ⟨ad.block, 0, none⟩ ∧ base ≤ ad.block ∧ ad.block < w.heap.size) := by
  rcases h.form with ⟨rfl, rfl⟩ | ⟨g, c, rfl, hb, hlt⟩
  · exact ⟨none, 0, rfl, Recs.nil, fun ad h => by cases h⟩
  · refine ⟨some ⟨g, 0, none⟩, c, rfl, fun _ => ⟨_, _, rfl, hlt, fun k hk j u hu => ?_⟩, fun ad h => by cases h; exact ⟨rfl, hb, hlt⟩⟩
    obtain ⟨hj, _⟩ := List.getElem?_eq_some_iff.1 hu
    rw [he] at hj
    have := World.ownsRow.cells h rfl (k * s + j) u (by rw [flat_get he xs k j hk hj]; exact hu)
    rw [Addr.add_lit] at this
    rw [Nat.add_assoc]
    exact this
theorem OwnR.rows (he : ∀ x, (enc x).length = s) {n c : Nat} (h : OwnR T enc s base w (.slice A n c) xs) : Recs enc s w.heap.size w A xs := by
  obtain ⟨A', c', e, hi, _⟩ := h.slice he
  injection e with h1 h2 h3
  subst h1
  exact hi
theorem OwnR.below {B : Nat} (h : OwnR T enc s base w v xs) (hb : Below B w w') (hB : ∀ g, v.ownBlock = some g → g < B) : OwnR T enc s base w' v xs := by
  refine ⟨h.1, ?_⟩
  rcases h.2 with hn | ⟨g, cap, cur, rfl, h1, h2, rest⟩
  · exact .inl hn
  · exact .inr ⟨g, cap, cur, rfl, h1, (hb.block g (hB g rfl)).trans h2, rest⟩
theorem OwnR.rebase {b' : Nat} (h : OwnR T enc s base w v xs) (hb : b' ≤ base) : OwnR T enc s b' w v xs := by
  refine ⟨h.1, ?_⟩
  rcases h.2 with hn | ⟨g, cap, cur, rfl, h1, rest⟩
  · exact .inl hn
  · exact .inr ⟨g, cap, cur, rfl, Nat.le_trans hb h1, rest⟩
theorem OwnR.kept {row : Option Nat} (h : OwnR T enc s base w v xs) (hg : w.grownBy w' row) (hne : v.ownBlock = none ∨ v.ownBlock ≠ row) : OwnR T enc s base w' v xs :=
  World.ownsRow.kept h hg hne
theorem OwnR.later (h : OwnR T enc s base w v xs) (hb : Below w.heap.size w w') : OwnR T enc s base w' v xs :=
  h.below hb (fun g hg => (World.ownsRow.lt h g hg).2)
end

theorem take_set_succ' {α : Type} {zs xs : List α} {k : Nat} (hz : zs.length = xs.length) (hk : k < xs.length) (h : zs.take k = xs.take k) : (zs.set k xs[k]).take (k + 1) = xs.take (k + 1) := by
  apply List.ext_getElem?
  intro j
  rw [List.getElem?_take, List.getElem?_take]
  split
  · by_cases e : j = k
    · subst e; rw [List.getElem?_set_self (by omega), List.getElem?_eq_getElem hk]
    · rw [List.getElem?_set_ne (Ne.symm e)]
      have := congrArg (·[j]?) h
      simp only [List.getElem?_take] at this
      rw [if_pos (by omega), if_pos (by omega)] at this
      exact this
  · rfl
theorem take_all_eq' {α : Type} {zs xs : List α} (hz : zs.length = xs.length) (h : zs.take xs.length = xs.take xs.length) : zs = xs := by
  rw [List.take_of_length_le (by omega), List.take_of_length_le (by omega)] at h; exact h
/-! ### Tasks that make dust: four numbers -/
end Go.Proofs.YtejkoicgbgoiaaaGreat

/- What a name is: at most ten bytes, small letters and digits, a letter first; the program's test and the reference's. Conditions: the length that a string can have. -/
namespace Go.Proofs.YtejkoicgbgoiaaaGreat
open Go.RowKit Go.PlainAid
open Pl
/-- A byte that is a small letter; a byte of a name. -/
def sm (n : Int) : Prop := 97 ≤ n ∧ n ≤ 122
def nb (n : Int) : Prop := (97 ≤ n ∧ n ≤ 122) ∨ (48 ≤ n ∧ n ≤ 57)
/-- A name. -/
def IsNm (s : ByteArray) : Prop := 1 ≤ s.size ∧ s.size ≤ 10 ∧ sm (bt s 0) ∧ ∀ k, k < s.size → nb (bt s k)
noncomputable def nameB (s : ByteArray) : Bool := @decide (IsNm s) (Classical.propDecidable _)
theorem nameB_yes {s : ByteArray} (h : IsNm s) : nameB s = true := @decide_eq_true _ (Classical.propDecidable _) h
theorem nameB_no {s : ByteArray} (h : ¬ IsNm s) : nameB s = false := @decide_eq_false _ (Classical.propDecidable _) h
theorem nameB_iff {s : ByteArray} : nameB s = true ↔ IsNm s := @decide_eq_true_iff _ (Classical.propDecidable _)

theorem str_ne {s : ByteArray} (h : 1 ≤ s.size) : s.toList ≠ [] := by
  intro e
  rw [ByteArray.toList_eq] at e
  have : s.data.size = s.size := rfl
  have h2 : s.data.toList.length = 0 := by rw [e]; rfl
  rw [Array.length_toList] at h2
  omega

/-- The first byte that is none of a name's. -/
theorem first_bad (s : ByteArray) : ∀ n, (∀ k, k < n → nb (bt s k)) ∨ ∃ k, k < n ∧ ¬ nb (bt s k) ∧ ∀ j, j < k → nb (bt s j) := by
  intro n
  induction n with
  | zero => exact .inl (fun k hk => by omega)
  | succ n ih =>
    rcases ih with h | ⟨k, hk, hb, hj⟩
    · by_cases hn : nb (bt s n)
      · left
        intro k hk
        by_cases e : k = n
        · subst e; exact hn
        · exact h k (by omega)
      · exact .inr ⟨n, by omega, hn, h⟩
    · exact .inr ⟨k, by omega, hb, hj⟩

theorem onlyName_yes (s : ByteArray) (w : World) (hs : s.size ≤ 10) (h : ∀ k, k < s.size → nb (bt s k)) :
    Calls Tryz.prog 138 #[.string s] w fun e w' => e = .returned (.bool true) ∧ w = w' := by
  have H := Lib.hid h
  clear h
  have hb := get_bt s
  go_enter Tryz.func138, Tryz.ntmps138
  go_wp2
  go_loop [7] (fun i => ∃ k : Nat, k ≤ s.size ∧ i = .int .i64 k) (fun i => s.size - (intOf i).toNat)
  case atStart => exact ⟨0, Nat.zero_le _, rfl⟩
  case round =>
    obtain ⟨k, hk, rfl⟩ := hrel
    by_cases hlt : k < s.size
    · have hx := H.out k hlt
      unfold nb at hx
      rcases hx with ⟨x1, x2⟩ | ⟨x1, x2⟩
      · go_wp2
        all_goals
          go_round
          case rel => exact ⟨k + 1, by omega, by go_num⟩
          case measure => simp [intOf]; omega
      · go_wp2
        all_goals
          go_round
          case rel => exact ⟨k + 1, by omega, by go_num⟩
          case measure => simp [intOf]; omega
    · go_wp2
      go_ret
      exact ⟨rfl, rfl⟩
theorem onlyName_no (s : ByteArray) (w : World) (hs : s.size ≤ 10) (b : Nat) (hbs : b < s.size) (hbad : ¬ nb (bt s b)) (h : ∀ k, k < b → nb (bt s k)) :
    Calls Tryz.prog 138 #[.string s] w fun e w' => e = .returned (.bool false) ∧ w = w' := by
  have H := Lib.hid h
  clear h
  have HB := Lib.hid hbad
  clear hbad
  have hb := get_bt s
  go_enter Tryz.func138, Tryz.ntmps138
  go_wp2
  go_loop [7] (fun i => ∃ k : Nat, k ≤ b ∧ i = .int .i64 k) (fun i => s.size - (intOf i).toNat)
  case atStart => exact ⟨0, Nat.zero_le _, rfl⟩
  case round =>
    obtain ⟨k, hk, rfl⟩ := hrel
    by_cases hlt : k < b
    · have hx := H.out k hlt
      unfold nb at hx
      rcases hx with ⟨x1, x2⟩ | ⟨x1, x2⟩
      · go_wp2
        all_goals
          go_round
          case rel => exact ⟨k + 1, by omega, by go_num⟩
          case measure => simp [intOf]; omega
      · go_wp2
        all_goals
          go_round
          case rel => exact ⟨k + 1, by omega, by go_num⟩
          case measure => simp [intOf]; omega
    · obtain rfl : k = b := by omega
      have hx := HB.out
      unfold nb at hx
      have y1 : bt s k < 97 ∨ 122 < bt s k := by omega
      have y2 : bt s k < 48 ∨ 57 < bt s k := by omega
      clear hx
      rcases y1 with y1 | y1 <;> rcases y2 with y2 | y2
      all_goals
        first
        | (exfalso; omega)
        | (go_wp2
           go_ret
           exact ⟨rfl, rfl⟩)
theorem IsName_any (s : ByteArray) (w : World) (hs : s.size ≤ maxLen) :
    Calls Tryz.prog 103 #[.string s] w fun e w' => e = .returned (.bool (nameB s)) ∧ w = w' := by
  unfold maxLen at hs
  have hb := get_bt s
  by_cases h1 : 1 ≤ s.size
  · by_cases h2 : s.size ≤ 10
    · by_cases h3 : 97 ≤ bt s 0
      · by_cases h4 : bt s 0 ≤ 122
        · rcases first_bad s s.size with h | ⟨k, hk, hbad, hj⟩
          · rw [nameB_yes ⟨h1, h2, ⟨h3, h4⟩, h⟩]
            have H := Lib.hid h
            clear h
            go_enter Tryz.func103, Tryz.ntmps103
            go_wp2_with (go_at_call 138; refine (onlyName_yes _ _ h2 H.out).mono ?_; rintro e w' ⟨rfl, rfl⟩)
            go_ret
            exact ⟨rfl, rfl⟩
          · rw [nameB_no (fun ⟨_, _, _, h⟩ => hbad (h k hk))]
            have H := Lib.hid hj
            have HB := Lib.hid hbad
            clear hj hbad
            go_enter Tryz.func103, Tryz.ntmps103
            go_wp2_with (go_at_call 138; refine (onlyName_no _ _ h2 k hk HB.out H.out).mono ?_; rintro e w' ⟨rfl, rfl⟩)
            go_ret
            exact ⟨rfl, rfl⟩
        · rw [nameB_no (fun ⟨_, _, h, _⟩ => h4 h.2)]
          go_enter Tryz.func103, Tryz.ntmps103
          go_wp2
          go_ret
          exact ⟨rfl, rfl⟩
      · rw [nameB_no (fun ⟨_, _, h, _⟩ => h3 h.1)]
        go_enter Tryz.func103, Tryz.ntmps103
        go_wp2
        go_ret
        exact ⟨rfl, rfl⟩
    · rw [nameB_no (fun ⟨_, h, _⟩ => h2 h)]
      go_enter Tryz.func103, Tryz.ntmps103
      go_wp2
      go_ret
      exact ⟨rfl, rfl⟩
  · rw [nameB_no (fun ⟨h, _⟩ => h1 h)]
    go_enter Tryz.func103, Tryz.ntmps103
    go_wp2
    go_ret
    exact ⟨rfl, rfl⟩

/-! ### The reference's -/
theorem l01Small_any (n : Int) (w : World) : Calls Tryz.prog 167 #[.int .u8 n] w fun e w' => e = .returned (.bool (inB n 97 122)) ∧ w = w' := by
  by_cases h1 : 97 ≤ n
  · by_cases h2 : n ≤ 122
    · rw [inB_mk ⟨h1, h2⟩]
      go_enter Tryz.func167, Tryz.ntmps167
      go_wp2
      go_ret
      exact ⟨rfl, rfl⟩
    · rw [inB_no.2 (by omega)]
      go_enter Tryz.func167, Tryz.ntmps167
      go_wp2
      go_ret
      exact ⟨rfl, rfl⟩
  · rw [inB_no.2 (by omega)]
    go_enter Tryz.func167, Tryz.ntmps167
    go_wp2
    go_ret
    exact ⟨rfl, rfl⟩
theorem l01Digit_any (n : Int) (w : World) : Calls Tryz.prog 168 #[.int .u8 n] w fun e w' => e = .returned (.bool (inB n 48 57)) ∧ w = w' := by
  by_cases h1 : 48 ≤ n
  · by_cases h2 : n ≤ 57
    · rw [inB_mk ⟨h1, h2⟩]
      go_enter Tryz.func168, Tryz.ntmps168
      go_wp2
      go_ret
      exact ⟨rfl, rfl⟩
    · rw [inB_no.2 (by omega)]
      go_enter Tryz.func168, Tryz.ntmps168
      go_wp2
      go_ret
      exact ⟨rfl, rfl⟩
  · rw [inB_no.2 (by omega)]
    go_enter Tryz.func168, Tryz.ntmps168
    go_wp2
    go_ret
    exact ⟨rfl, rfl⟩
theorem l01Name_yes (s : ByteArray) (w : World) (h1 : 1 ≤ s.size) (h2 : s.size ≤ 10) (h3 : inB (bt s 0) 97 122 = true) (h : ∀ k, k < s.size → nb (bt s k)) :
    Calls Tryz.prog 139 #[.string s] w fun e w' => e = .returned (.bool true) ∧ w = w' := by
  have H := Lib.hid h
  clear h
  have hb := get_bt s
  have hne : s.toList ≠ [] := str_ne h1
  have hne2 : s.toList.isEmpty = false := by simp [hne]
  go_enter Tryz.func139, Tryz.ntmps139
  go_wp2_with (go_at_call 167; refine (l01Small_any _ _).mono ?_; rintro e w' ⟨rfl, rfl⟩)
  go_loop [3] (fun i => ∃ k : Nat, k ≤ s.size ∧ i = .int .i64 k) (fun i => s.size - (intOf i).toNat)
  case atStart => exact ⟨0, Nat.zero_le _, rfl⟩
  case round =>
    obtain ⟨k, hk, rfl⟩ := hrel
    by_cases hlt : k < s.size
    · have hx := H.out k hlt
      unfold nb at hx
      by_cases hsm : inB (bt s k) 97 122 = true
      · go_wp2_with (first | (go_at_call 167; refine (l01Small_any _ _).mono ?_; rintro e w' ⟨rfl, rfl⟩) | (go_at_call 168; refine (l01Digit_any _ _).mono ?_; rintro e w' ⟨rfl, rfl⟩))
        go_round
        case rel => exact ⟨k + 1, by omega, by go_num⟩
        case measure => simp [intOf]; omega
      · have hsm' : inB (bt s k) 97 122 = false := by simpa using hsm
        have hdg : inB (bt s k) 48 57 = true := inB_mk (hx.resolve_left (fun h => hsm (inB_mk h)))
        clear hsm hx
        go_wp2_with (first | (go_at_call 167; refine (l01Small_any _ _).mono ?_; rintro e w' ⟨rfl, rfl⟩) | (go_at_call 168; refine (l01Digit_any _ _).mono ?_; rintro e w' ⟨rfl, rfl⟩))
        go_round
        case rel => exact ⟨k + 1, by omega, by go_num⟩
        case measure => simp [intOf]; omega
    · go_wp2
      go_ret
      exact ⟨rfl, rfl⟩
theorem l01Name_no (s : ByteArray) (w : World) (h1 : 1 ≤ s.size) (h2 : s.size ≤ 10) (h3 : inB (bt s 0) 97 122 = true) (b : Nat) (hbs : b < s.size) (hbad : ¬ nb (bt s b)) (h : ∀ k, k < b → nb (bt s k)) :
    Calls Tryz.prog 139 #[.string s] w fun e w' => e = .returned (.bool false) ∧ w = w' := by
  have H := Lib.hid h
  clear h
  have HB := Lib.hid hbad
  clear hbad
  have hb := get_bt s
  have hne : s.toList ≠ [] := str_ne h1
  have hne2 : s.toList.isEmpty = false := by simp [hne]
  go_enter Tryz.func139, Tryz.ntmps139
  go_wp2_with (go_at_call 167; refine (l01Small_any _ _).mono ?_; rintro e w' ⟨rfl, rfl⟩)
  go_loop [3] (fun i => ∃ k : Nat, k ≤ b ∧ i = .int .i64 k) (fun i => s.size - (intOf i).toNat)
  case atStart => exact ⟨0, Nat.zero_le _, rfl⟩
  case round =>
    obtain ⟨k, hk, rfl⟩ := hrel
    by_cases hlt : k < b
    · have hx := H.out k hlt
      unfold nb at hx
      by_cases hsm : inB (bt s k) 97 122 = true
      · go_wp2_with (first | (go_at_call 167; refine (l01Small_any _ _).mono ?_; rintro e w' ⟨rfl, rfl⟩) | (go_at_call 168; refine (l01Digit_any _ _).mono ?_; rintro e w' ⟨rfl, rfl⟩))
        go_round
        case rel => exact ⟨k + 1, by omega, by go_num⟩
        case measure => simp [intOf]; omega
      · have hsm' : inB (bt s k) 97 122 = false := by simpa using hsm
        have hdg : inB (bt s k) 48 57 = true := inB_mk (hx.resolve_left (fun h => hsm (inB_mk h)))
        clear hsm hx
        go_wp2_with (first | (go_at_call 167; refine (l01Small_any _ _).mono ?_; rintro e w' ⟨rfl, rfl⟩) | (go_at_call 168; refine (l01Digit_any _ _).mono ?_; rintro e w' ⟨rfl, rfl⟩))
        go_round
        case rel => exact ⟨k + 1, by omega, by go_num⟩
        case measure => simp [intOf]; omega
    · obtain rfl : k = b := by omega
      have hx := HB.out
      unfold nb at hx
      have hsm : inB (bt s k) 97 122 = false := inB_no.2 (by omega)
      have hdg : inB (bt s k) 48 57 = false := inB_no.2 (by omega)
      clear hx
      go_wp2_with (first | (go_at_call 167; refine (l01Small_any _ _).mono ?_; rintro e w' ⟨rfl, rfl⟩) | (go_at_call 168; refine (l01Digit_any _ _).mono ?_; rintro e w' ⟨rfl, rfl⟩))
      go_ret
      exact ⟨rfl, rfl⟩
theorem l01Name_any (s : ByteArray) (w : World) (hs : s.size ≤ maxLen) :
    Calls Tryz.prog 139 #[.string s] w fun e w' => e = .returned (.bool (nameB s)) ∧ w = w' := by
  unfold maxLen at hs
  have hb := get_bt s
  by_cases h1 : 1 ≤ s.size
  · by_cases h2 : s.size ≤ 10
    · by_cases h3 : inB (bt s 0) 97 122 = true
      · rcases first_bad s s.size with h | ⟨k, hk, hbad, hj⟩
        · rw [nameB_yes ⟨h1, h2, inB_iff.1 h3, h⟩]
          exact l01Name_yes s w h1 h2 h3 h
        · rw [nameB_no (fun ⟨_, _, _, h⟩ => hbad (h k hk))]
          exact l01Name_no s w h1 h2 h3 k hk hbad hj
      · have h3' : inB (bt s 0) 97 122 = false := by simpa using h3
        rw [nameB_no (fun ⟨_, _, h, _⟩ => h3 (inB_mk h))]
        clear h3
        have hne : s.toList ≠ [] := str_ne h1
        have hne2 : s.toList.isEmpty = false := by simp [hne]
        go_enter Tryz.func139, Tryz.ntmps139
        go_wp2_with (go_at_call 167; refine (l01Small_any _ _).mono ?_; rintro e w' ⟨rfl, rfl⟩)
        go_ret
        exact ⟨rfl, rfl⟩
    · rw [nameB_no (fun ⟨_, h, _⟩ => h2 h)]
      have hne : s.toList ≠ [] := str_ne h1
      have hne2 : s.toList.isEmpty = false := by simp [hne]
      go_enter Tryz.func139, Tryz.ntmps139
      go_wp2
      go_ret
      exact ⟨rfl, rfl⟩
  · rw [nameB_no (fun ⟨h, _⟩ => h1 h)]
    have hse : s = ByteArray.empty := by
      apply ByteArray.ext
      apply Array.eq_empty_of_size_eq_zero
      have : s.data.size = s.size := rfl
      omega
    subst hse
    go_enter Tryz.func139, Tryz.ntmps139
    go_wp2
    go_ret
    exact ⟨rfl, rfl⟩
end Go.Proofs.YtejkoicgbgoiaaaGreat

/- Airways: when one is valid, by the program and by the reference; copies and sizes; how long a walk along one takes; and the walk of the law. Conditions: the facts on memory and on lengths that each theorem names. -/
namespace Go.Proofs.YtejkoicgbgoiaaaGreat
open Go.RowKit
open Pl
/-- A valid airway. -/
noncomputable def airwayB (s : ByteArray) (f t l c r k : Int) : Bool := nameB s && (inB f 0 15 && (inB t 0 15 && (!(f == t) && (inB l 1 10000 && (inB c 50 5000 && (inB r 1 1000 && inB k 0 1000))))))
theorem airwayB_bd {s : ByteArray} {f t l c r k : Int} (h : airwayB s f t l c r k = true) : (0 ≤ f ∧ f ≤ 15) ∧ (0 ≤ t ∧ t ≤ 15) ∧ f ≠ t ∧ (1 ≤ l ∧ l ≤ 10000) ∧ (50 ≤ c ∧ c ≤ 5000) ∧ (1 ≤ r ∧ r ≤ 1000) ∧ (0 ≤ k ∧ k ≤ 1000) := by
  unfold airwayB at h
  simp only [Bool.and_eq_true, Bool.not_eq_true', beq_eq_false_iff_ne] at h
  obtain ⟨_, h1, h2, h3, h4, h5, h6, h7⟩ := h
  exact ⟨inB_iff.1 h1, inB_iff.1 h2, h3, inB_iff.1 h4, inB_iff.1 h5, inB_iff.1 h6, inB_iff.1 h7⟩
theorem ValidAirway_i (s : ByteArray) (f t l c r k : Int) (w : World) (hs : s.size ≤ maxLen) :
    Calls Tryz.prog 71 #[.agg #[.string s, .int .i64 f, .int .i64 t, .int .i64 l, .int .i64 c, .int .i64 r, .int .i64 k]] w fun e w' => e = .returned (.bool (airwayB s f t l c r k)) ∧ Below w.heap.size w w' := by
  unfold airwayB
  cases h0 : nameB s
  · go_enter Tryz.func71, Tryz.ntmps71
    go_wp2_with (first | (go_at_call 43; refine (within_any _ _ _ _).mono ?_; rintro e w' ⟨rfl, rfl⟩) | (go_at_call 104; refine (junctionOk_any _ _).mono ?_; rintro e w' ⟨rfl, rfl⟩) | (go_at_call 103; refine (IsName_any _ _ hs).mono ?_; rintro e w' ⟨rfl, rfl⟩))
    go_ret
    exact ⟨rfl, by go_grown⟩
  · cases h1 : inB f 0 15
    · go_enter Tryz.func71, Tryz.ntmps71
      go_wp2_with (first | (go_at_call 43; refine (within_any _ _ _ _).mono ?_; rintro e w' ⟨rfl, rfl⟩) | (go_at_call 104; refine (junctionOk_any _ _).mono ?_; rintro e w' ⟨rfl, rfl⟩) | (go_at_call 103; refine (IsName_any _ _ hs).mono ?_; rintro e w' ⟨rfl, rfl⟩))
      go_ret
      exact ⟨rfl, by go_grown⟩
    · obtain ⟨h1a, h1b⟩ := inB_iff.1 h1
      cases h2 : inB t 0 15
      · go_enter Tryz.func71, Tryz.ntmps71
        go_wp2_with (first | (go_at_call 43; refine (within_any _ _ _ _).mono ?_; rintro e w' ⟨rfl, rfl⟩) | (go_at_call 104; refine (junctionOk_any _ _).mono ?_; rintro e w' ⟨rfl, rfl⟩) | (go_at_call 103; refine (IsName_any _ _ hs).mono ?_; rintro e w' ⟨rfl, rfl⟩))
        go_ret
        exact ⟨rfl, by go_grown⟩
      · obtain ⟨h2a, h2b⟩ := inB_iff.1 h2
        by_cases hft : f = t
        · have e3 : (f == t) = true := by simp [hft]
          have e4 : (f != t) = false := by simp [hft]
          rw [e3]
          have E := Lib.hid e4
          clear hft e3
          go_enter Tryz.func71, Tryz.ntmps71
          go_wp2_with (first | (go_at_call 43; refine (within_any _ _ _ _).mono ?_; rintro e w' ⟨rfl, rfl⟩) | (go_at_call 104; refine (junctionOk_any _ _).mono ?_; rintro e w' ⟨rfl, rfl⟩) | (go_at_call 103; refine (IsName_any _ _ hs).mono ?_; rintro e w' ⟨rfl, rfl⟩))
          go_ret
          exact ⟨rfl, by go_grown⟩
        · have e3 : (f == t) = false := by simp [hft]
          have e4 : (f != t) = true := by simp [hft]
          rw [e3]
          clear hft e3
          cases h4 : inB l 1 10000
          · go_enter Tryz.func71, Tryz.ntmps71
            go_wp2_with (first | (go_at_call 43; refine (within_any _ _ _ _).mono ?_; rintro e w' ⟨rfl, rfl⟩) | (go_at_call 104; refine (junctionOk_any _ _).mono ?_; rintro e w' ⟨rfl, rfl⟩) | (go_at_call 103; refine (IsName_any _ _ hs).mono ?_; rintro e w' ⟨rfl, rfl⟩))
            go_ret
            exact ⟨rfl, by go_grown⟩
          · cases h5 : inB c 50 5000
            · go_enter Tryz.func71, Tryz.ntmps71
              go_wp2_with (first | (go_at_call 43; refine (within_any _ _ _ _).mono ?_; rintro e w' ⟨rfl, rfl⟩) | (go_at_call 104; refine (junctionOk_any _ _).mono ?_; rintro e w' ⟨rfl, rfl⟩) | (go_at_call 103; refine (IsName_any _ _ hs).mono ?_; rintro e w' ⟨rfl, rfl⟩))
              go_ret
              exact ⟨rfl, by go_grown⟩
            · cases h6 : inB r 1 1000
              · go_enter Tryz.func71, Tryz.ntmps71
                go_wp2_with (first | (go_at_call 43; refine (within_any _ _ _ _).mono ?_; rintro e w' ⟨rfl, rfl⟩) | (go_at_call 104; refine (junctionOk_any _ _).mono ?_; rintro e w' ⟨rfl, rfl⟩) | (go_at_call 103; refine (IsName_any _ _ hs).mono ?_; rintro e w' ⟨rfl, rfl⟩))
                go_ret
                exact ⟨rfl, by go_grown⟩
              · go_enter Tryz.func71, Tryz.ntmps71
                go_wp2_with (first | (go_at_call 43; refine (within_any _ _ _ _).mono ?_; rintro e w' ⟨rfl, rfl⟩) | (go_at_call 104; refine (junctionOk_any _ _).mono ?_; rintro e w' ⟨rfl, rfl⟩) | (go_at_call 103; refine (IsName_any _ _ hs).mono ?_; rintro e w' ⟨rfl, rfl⟩))
                go_ret
                exact ⟨rfl, by go_grown⟩
set_option maxRecDepth 100000 in
set_option maxHeartbeats 800000 in
theorem l03Ok_a (b o : Nat) (s : ByteArray) (f t l c r k : Int) (w : World) (hs : s.size ≤ maxLen) (c0 : w.cell? ⟨b, o, none⟩ = some (.string s)) (_ : w.cell? ⟨b, o + 1, none⟩ = some (.int .i64 f)) (_ : w.cell? ⟨b, o + 2, none⟩ = some (.int .i64 t)) (_ : w.cell? ⟨b, o + 3, none⟩ = some (.int .i64 l)) (_ : w.cell? ⟨b, o + 4, none⟩ = some (.int .i64 c)) (_ : w.cell? ⟨b, o + 5, none⟩ = some (.int .i64 r)) (_ : w.cell? ⟨b, o + 6, none⟩ = some (.int .i64 k)) (h0 : nameB s = false) :
    Calls Tryz.prog 134 #[.pointer (some ⟨b, o, none⟩)] w fun e w' => e = .returned (.bool false) ∧ ∃ n, w.drewN n = w' := by
  have HQ0 := Lib.hid (fun W => eqb (l01Name_any s W hs) h0)
  clear h0
  clear hs
  go_enter Tryz.func134, Tryz.ntmps134
  go_wp2_with fail
  go_big_quiet (first | (go_at_call 139; first | (with_reducible exact quiet_s (HQ0.out _)) | (with_reducible exact quiet_s2 (HQ0.out _))))
  go_wp2
  go_ret
  exact ⟨rfl, _, rfl⟩
set_option maxRecDepth 100000 in
set_option maxHeartbeats 800000 in
theorem l03Ok_b (b o : Nat) (s : ByteArray) (f t l c r k : Int) (w : World) (hs : s.size ≤ maxLen) (c0 : w.cell? ⟨b, o, none⟩ = some (.string s)) (c1 : w.cell? ⟨b, o + 1, none⟩ = some (.int .i64 f)) (_ : w.cell? ⟨b, o + 2, none⟩ = some (.int .i64 t)) (_ : w.cell? ⟨b, o + 3, none⟩ = some (.int .i64 l)) (_ : w.cell? ⟨b, o + 4, none⟩ = some (.int .i64 c)) (_ : w.cell? ⟨b, o + 5, none⟩ = some (.int .i64 r)) (_ : w.cell? ⟨b, o + 6, none⟩ = some (.int .i64 k)) (h0 : nameB s = true) (h1 : inB f 0 15 = false) :
    Calls Tryz.prog 134 #[.pointer (some ⟨b, o, none⟩)] w fun e w' => e = .returned (.bool false) ∧ ∃ n, w.drewN n = w' := by
  have HQ0 := Lib.hid (fun W => eqb (l01Name_any s W hs) h0)
  clear h0
  have HQ1 := Lib.hid (fun W => eqb (l00In_any f 0 15 W) h1)
  clear h1
  clear hs
  go_enter Tryz.func134, Tryz.ntmps134
  go_wp2_with fail
  go_big_quiet (first | (go_at_call 139; first | (with_reducible exact quiet_s (HQ0.out _)) | (with_reducible exact quiet_s2 (HQ0.out _))) | (go_at_call 67; first | (with_reducible exact quiet_s (HQ1.out _)) | (with_reducible exact quiet_s2 (HQ1.out _))))
  go_wp2
  go_ret
  exact ⟨rfl, _, rfl⟩
set_option maxRecDepth 100000 in
set_option maxHeartbeats 800000 in
theorem l03Ok_c (b o : Nat) (s : ByteArray) (f t l c r k : Int) (w : World) (hs : s.size ≤ maxLen) (c0 : w.cell? ⟨b, o, none⟩ = some (.string s)) (c1 : w.cell? ⟨b, o + 1, none⟩ = some (.int .i64 f)) (c2 : w.cell? ⟨b, o + 2, none⟩ = some (.int .i64 t)) (_ : w.cell? ⟨b, o + 3, none⟩ = some (.int .i64 l)) (_ : w.cell? ⟨b, o + 4, none⟩ = some (.int .i64 c)) (_ : w.cell? ⟨b, o + 5, none⟩ = some (.int .i64 r)) (_ : w.cell? ⟨b, o + 6, none⟩ = some (.int .i64 k)) (h0 : nameB s = true) (h1 : inB f 0 15 = true) (h2 : inB t 0 15 = false) :
    Calls Tryz.prog 134 #[.pointer (some ⟨b, o, none⟩)] w fun e w' => e = .returned (.bool false) ∧ ∃ n, w.drewN n = w' := by
  have HQ0 := Lib.hid (fun W => eqb (l01Name_any s W hs) h0)
  clear h0
  have HQ1 := Lib.hid (fun W => eqb (l00In_any f 0 15 W) h1)
  clear h1
  have HQ2 := Lib.hid (fun W => eqb (l00In_any t 0 15 W) h2)
  clear h2
  clear hs
  go_enter Tryz.func134, Tryz.ntmps134
  go_wp2_with fail
  go_big_quiet (first | (go_at_call 139; first | (with_reducible exact quiet_s (HQ0.out _)) | (with_reducible exact quiet_s2 (HQ0.out _))) | (go_at_call 67; first | (with_reducible exact quiet_s (HQ1.out _)) | (with_reducible exact quiet_s2 (HQ1.out _))) | (go_at_call 67; first | (with_reducible exact quiet_s (HQ2.out _)) | (with_reducible exact quiet_s2 (HQ2.out _))))
  go_wp2
  go_ret
  exact ⟨rfl, _, rfl⟩
set_option maxRecDepth 100000 in
set_option maxHeartbeats 800000 in
theorem l03Ok_d (b o : Nat) (s : ByteArray) (f t l c r k : Int) (w : World) (hs : s.size ≤ maxLen) (c0 : w.cell? ⟨b, o, none⟩ = some (.string s)) (c1 : w.cell? ⟨b, o + 1, none⟩ = some (.int .i64 f)) (c2 : w.cell? ⟨b, o + 2, none⟩ = some (.int .i64 t)) (_ : w.cell? ⟨b, o + 3, none⟩ = some (.int .i64 l)) (_ : w.cell? ⟨b, o + 4, none⟩ = some (.int .i64 c)) (_ : w.cell? ⟨b, o + 5, none⟩ = some (.int .i64 r)) (_ : w.cell? ⟨b, o + 6, none⟩ = some (.int .i64 k)) (h0 : nameB s = true) (h1 : inB f 0 15 = true) (h2 : inB t 0 15 = true) (h3 : (f == t) = true) :
    Calls Tryz.prog 134 #[.pointer (some ⟨b, o, none⟩)] w fun e w' => e = .returned (.bool false) ∧ ∃ n, w.drewN n = w' := by
  have HQ0 := Lib.hid (fun W => eqb (l01Name_any s W hs) h0)
  clear h0
  have HQ1 := Lib.hid (fun W => eqb (l00In_any f 0 15 W) h1)
  clear h1
  have HQ2 := Lib.hid (fun W => eqb (l00In_any t 0 15 W) h2)
  clear h2
  clear hs
  go_enter Tryz.func134, Tryz.ntmps134
  go_wp2_with fail
  go_big_quiet (first | (go_at_call 139; first | (with_reducible exact quiet_s (HQ0.out _)) | (with_reducible exact quiet_s2 (HQ0.out _))) | (go_at_call 67; first | (with_reducible exact quiet_s (HQ1.out _)) | (with_reducible exact quiet_s2 (HQ1.out _))) | (go_at_call 67; first | (with_reducible exact quiet_s (HQ2.out _)) | (with_reducible exact quiet_s2 (HQ2.out _))))
  go_wp2
  go_ret
  exact ⟨rfl, _, rfl⟩
set_option maxRecDepth 100000 in
set_option maxHeartbeats 800000 in
theorem l03Ok_e (b o : Nat) (s : ByteArray) (f t l c r k : Int) (w : World) (hs : s.size ≤ maxLen) (c0 : w.cell? ⟨b, o, none⟩ = some (.string s)) (c1 : w.cell? ⟨b, o + 1, none⟩ = some (.int .i64 f)) (c2 : w.cell? ⟨b, o + 2, none⟩ = some (.int .i64 t)) (c3 : w.cell? ⟨b, o + 3, none⟩ = some (.int .i64 l)) (c4 : w.cell? ⟨b, o + 4, none⟩ = some (.int .i64 c)) (c5 : w.cell? ⟨b, o + 5, none⟩ = some (.int .i64 r)) (c6 : w.cell? ⟨b, o + 6, none⟩ = some (.int .i64 k)) (h0 : nameB s = true) (h1 : inB f 0 15 = true) (h2 : inB t 0 15 = true) (h3 : (f == t) = false) :
    Calls Tryz.prog 134 #[.pointer (some ⟨b, o, none⟩)] w fun e w' => e = .returned (.bool (inB l 1 10000 && (inB c 50 5000 && (inB r 1 1000 && inB k 0 1000)))) ∧ ∃ n, w.drewN n = w' := by
  have HQ0 := Lib.hid (fun W => eqb (l01Name_any s W hs) h0)
  clear h0
  have HQ1 := Lib.hid (fun W => eqb (l00In_any f 0 15 W) h1)
  clear h1
  have HQ2 := Lib.hid (fun W => eqb (l00In_any t 0 15 W) h2)
  clear h2
  clear hs
  go_enter Tryz.func134, Tryz.ntmps134
  go_wp2_with fail
  go_big_quiet (first | (go_at_call 139; first | (with_reducible exact quiet_s (HQ0.out _)) | (with_reducible exact quiet_s2 (HQ0.out _))) | (go_at_call 67; first | (with_reducible exact quiet_s (HQ1.out _)) | (with_reducible exact quiet_s2 (HQ1.out _))) | (go_at_call 67; first | (with_reducible exact quiet_s (HQ2.out _)) | (with_reducible exact quiet_s2 (HQ2.out _))))
  cases h4 : inB l 1 10000
  · go_wp2_with (go_at_call 67; refine (l00In_any _ _ _ _).mono ?_; rintro e w' ⟨rfl, rfl⟩)
    go_ret
    exact ⟨by simp [h4], _, rfl⟩
  · cases h5 : inB c 50 5000
    · go_wp2_with (go_at_call 67; refine (l00In_any _ _ _ _).mono ?_; rintro e w' ⟨rfl, rfl⟩)
      go_ret
      exact ⟨by simp [h4, h5], _, rfl⟩
    · cases h6 : inB r 1 1000
      · go_wp2_with (go_at_call 67; refine (l00In_any _ _ _ _).mono ?_; rintro e w' ⟨rfl, rfl⟩)
        go_ret
        exact ⟨by simp [h4, h5, h6], _, rfl⟩
      · go_wp2_with (go_at_call 67; refine (l00In_any _ _ _ _).mono ?_; rintro e w' ⟨rfl, rfl⟩)
        go_ret
        exact ⟨by simp [h4, h5, h6], _, rfl⟩
theorem l03Ok_any (b o : Nat) (s : ByteArray) (f t l c r k : Int) (w : World) (hs : s.size ≤ maxLen) (c0 : w.cell? ⟨b, o, none⟩ = some (.string s)) (c1 : w.cell? ⟨b, o + 1, none⟩ = some (.int .i64 f)) (c2 : w.cell? ⟨b, o + 2, none⟩ = some (.int .i64 t)) (c3 : w.cell? ⟨b, o + 3, none⟩ = some (.int .i64 l)) (c4 : w.cell? ⟨b, o + 4, none⟩ = some (.int .i64 c)) (c5 : w.cell? ⟨b, o + 5, none⟩ = some (.int .i64 r)) (c6 : w.cell? ⟨b, o + 6, none⟩ = some (.int .i64 k)) :
    Calls Tryz.prog 134 #[.pointer (some ⟨b, o, none⟩)] w fun e w' => e = .returned (.bool (airwayB s f t l c r k)) ∧ ∃ n, w.drewN n = w' := by
  unfold airwayB
  cases h0 : nameB s
  · exact l03Ok_a b o s f t l c r k w hs c0 c1 c2 c3 c4 c5 c6 h0
  · cases h1 : inB f 0 15
    · exact l03Ok_b b o s f t l c r k w hs c0 c1 c2 c3 c4 c5 c6 h0 h1
    · cases h2 : inB t 0 15
      · exact l03Ok_c b o s f t l c r k w hs c0 c1 c2 c3 c4 c5 c6 h0 h1 h2
      · cases h3 : f == t
        · exact l03Ok_e b o s f t l c r k w hs c0 c1 c2 c3 c4 c5 c6 h0 h1 h2 h3
        · exact l03Ok_d b o s f t l c r k w hs c0 c1 c2 c3 c4 c5 c6 h0 h1 h2 h3
theorem toAirway_any (s : ByteArray) (f t l c r k : Int) (w : World) :
    Calls Tryz.prog 69 #[.agg #[.string s, .int .i64 f, .int .i64 t, .int .i64 l, .int .i64 c, .int .i64 r, .int .i64 k]] w fun e w' => e = .returned (.agg #[.string s, .int .i64 f, .int .i64 t, .int .i64 l, .int .i64 c, .int .i64 r, .int .i64 k]) ∧ Below w.heap.size w w' := by
  go_enter Tryz.func69, Tryz.ntmps69
  go_wp2
  go_returns
  exact ⟨rfl, by go_grown⟩
theorem szAirway_yes (s : ByteArray) (f t l c r k : Int) (left : Int) (w : World) (h0 : left ≤ 1048576) (h : s.size ≤ left) :
    Calls Tryz.prog 65 #[.agg #[.string s, .int .i64 f, .int .i64 t, .int .i64 l, .int .i64 c, .int .i64 r, .int .i64 k], .int .i64 left] w fun e w' => e = .returned (.int .i64 (left - s.size)) ∧ Below w.heap.size w w' := by
  go_enter Tryz.func65, Tryz.ntmps65
  go_wp2
  go_ret
  exact ⟨rfl, by go_grown⟩
theorem szAirway_no (s : ByteArray) (f t l c r k : Int) (left : Int) (w : World) (h0 : 0 ≤ left) (h1 : left ≤ 1048576) (hs : s.size ≤ maxLen) (h : left < s.size) :
    Calls Tryz.prog 65 #[.agg #[.string s, .int .i64 f, .int .i64 t, .int .i64 l, .int .i64 c, .int .i64 r, .int .i64 k], .int .i64 left] w fun e w' => e = .returned (.int .i64 (-1)) ∧ Below w.heap.size w w' := by
  unfold maxLen at hs
  go_enter Tryz.func65, Tryz.ntmps65
  go_wp2
  go_ret
  exact ⟨rfl, by go_grown⟩
end Go.Proofs.YtejkoicgbgoiaaaGreat

/- Lists of airways: what one is in memory; the laws' own functions on them: copies, comparisons, sizes. Conditions: the lengths that each theorem names. -/
namespace Go.Proofs.YtejkoicgbgoiaaaGreat
open Go.RowKit
open Pl
/-- An airway: its name, from, to, length, section, friction, shock. -/
structure Aw where
  id : ByteArray
  f : Int
  t : Int
  l : Int
  c : Int
  r : Int
  k : Int
def encA (a : Aw) : List Value := [.string a.id, .int .i64 a.f, .int .i64 a.t, .int .i64 a.l, .int .i64 a.c, .int .i64 a.r, .int .i64 a.k]
theorem encA_len (a : Aw) : (encA a).length = 7 := rfl
def aNone : Aw := ⟨ByteArray.empty, 0, 0, 0, 0, 0, 0⟩
/-- The value of an airway. -/
def valA (a : Aw) : Value := .agg #[.string a.id, .int .i64 a.f, .int .i64 a.t, .int .i64 a.l, .int .i64 a.c, .int .i64 a.r, .int .i64 a.k]
theorem Recs.cells7 {B : Nat} {w : World} {A : Option Addr} {xs : List Aw} (h : Recs encA 7 B w A xs) {j : Nat} (hj : j < xs.length) {s : ByteArray} {f t l c r k : Int} (e : xs.getD j aNone = ⟨s, f, t, l, c, r, k⟩) : ∃ b o, A = some ⟨b, o, none⟩ ∧ b < B ∧
    w.cell? ⟨b, o + j * 7, none⟩ = some (.string s) ∧ w.cell? ⟨b, o + j * 7 + 1, none⟩ = some (.int .i64 f) ∧ w.cell? ⟨b, o + j * 7 + 2, none⟩ = some (.int .i64 t) ∧ w.cell? ⟨b, o + j * 7 + 3, none⟩ = some (.int .i64 l) ∧ w.cell? ⟨b, o + j * 7 + 4, none⟩ = some (.int .i64 c) ∧ w.cell? ⟨b, o + j * 7 + 5, none⟩ = some (.int .i64 r) ∧ w.cell? ⟨b, o + j * 7 + 6, none⟩ = some (.int .i64 k) := by
  obtain ⟨b, o, ea, hb, hc⟩ := h.at_ hj
  have e' : xs[j] = ⟨s, f, t, l, c, r, k⟩ := by rw [← e]; simp [List.getD, hj]
  rw [e'] at hc
  exact ⟨b, o, ea, hb, hc 0 _ rfl, hc 1 _ rfl, hc 2 _ rfl, hc 3 _ rfl, hc 4 _ rfl, hc 5 _ rfl, hc 6 _ rfl⟩
theorem flatA_set (a : Aw) : ∀ (zs : List Aw) (j : Nat), j < zs.length →
    ((((((((zs.flatMap encA).set (j * 7) (.string a.id)).set (j * 7 + 1) (.int .i64 a.f)).set (j * 7 + 2) (.int .i64 a.t)).set (j * 7 + 3) (.int .i64 a.l)).set (j * 7 + 4) (.int .i64 a.c)).set (j * 7 + 5) (.int .i64 a.r)).set (j * 7 + 6) (.int .i64 a.k)) = (zs.set j a).flatMap encA
  | z :: zs, 0, _ => by simp [encA]
  | z :: zs, j + 1, h => by
    have ih := flatA_set a zs j (by simpa using h)
    rw [show (j + 1) * 7 = j * 7 + 7 by omega]
    simp only [List.flatMap_cons, List.set_cons_succ, encA, List.cons_append, List.nil_append]
    have e := congrArg (fun l => Value.string z.id :: Value.int .i64 z.f :: Value.int .i64 z.t :: Value.int .i64 z.l :: Value.int .i64 z.c :: Value.int .i64 z.r :: Value.int .i64 z.k :: l) ih
    exact e
theorem madeA (n : Nat) : (madeCells #[.string ByteArray.empty, .int .i64 0, .int .i64 0, .int .i64 0, .int .i64 0, .int .i64 0, .int .i64 0] (n * 7)).toList = (List.replicate n aNone).flatMap encA := by
  unfold madeCells
  rw [Array.toList_map, Array.toList_range]
  induction n with
  | zero => rfl
  | succ n ih =>
    rw [show (n + 1) * 7 = n * 7 + 1 + 1 + 1 + 1 + 1 + 1 + 1 by omega, List.range_succ, List.range_succ, List.range_succ, List.range_succ, List.range_succ, List.range_succ, List.range_succ, List.replicate_succ', List.flatMap_append]
    simp only [List.map_append, List.append_assoc]
    rw [ih]
    congr 1
    simp [encA, aNone, Nat.add_mod]
theorem flatA_cell {zs : List Aw} {k j : Nat} (hk : k < zs.length) (hj : j < 7) : ∃ y, (zs.flatMap encA)[k * 7 + j]? = some y := by
  rw [flat_get encA_len zs k j hk hj]
  exact ⟨_, List.getElem?_eq_getElem (by rw [encA_len]; exact hj)⟩
theorem infoA : (Tryz.prog.info? 99).map (fun i => (i.zero, i.size, i.bytes)) = some (some (.agg #[.string ByteArray.empty, .int .i64 0, .int .i64 0, .int .i64 0, .int .i64 0, .int .i64 0, .int .i64 0]), 7, 64) := by kernel_rfl
set_option maxRecDepth 100000 in
set_option maxHeartbeats 800000 in
theorem toAirwayS_any (A : Option Addr) (c : Nat) (xs : List Aw) (B : Nat) (w : World) (hn : xs.length ≤ 1048576) (hI : Recs encA 7 B w A xs) (hB : B ≤ w.heap.size) :
    Calls Tryz.prog 37 #[.slice A xs.length c] w fun e w' => e = .returned (.slice (some ⟨w.heap.size, 0, none⟩) xs.length xs.length) ∧ OwnR 99 encA 7 w.heap.size w' (.slice (some ⟨w.heap.size, 0, none⟩) xs.length xs.length) xs ∧ Below w.heap.size w w' := by
  obtain ⟨i0, hi, hz0, hz1, hz2⟩ := info_parts infoA
  have hbb : i0.bytes * xs.length ≤ 281474976710656 := by rw [hz2]; omega
  have hmx : xs.length ≤ maxLen := le_max (by omega)
  have HD := Lib.hid (fun (s : ByteArray) (f t l c r k : Int) W => toAirway_any s f t l c r k W)
  go_enter Tryz.func37, Tryz.ntmps37
  go_wp2_with (at_make; refine wpList_make_full _ rfl (.tmp 6) (.tmp 6) 31 rfl w.heap.size 99 i0 (.agg #[.string ByteArray.empty, .int .i64 0, .int .i64 0, .int .i64 0, .int .i64 0, .int .i64 0, .int .i64 0]) 7 Tryz.underlying31 hi hz0 hz1 .i64 .i64 (xs.length : Int) (xs.length : Int) xs.length rfl rfl rfl rfl hbb hmx (Nat.le_refl _) ?_; intro w1 hown hgr)
  have hbe : Below w.heap.size w w1 := (Below.refl _ _).grown hgr (Nat.le_refl _) (fun k hk => by cases hk)
  have HO : ∃ zs : List Aw, zs.length = xs.length ∧ zs.take 0 = xs.take 0 ∧ w1.ownsRow w.heap.size 99 7 (.slice (some ⟨w.heap.size, 0, none⟩) xs.length xs.length) xs.length (zs.flatMap encA) := by
    refine ⟨List.replicate xs.length aNone, by simp, by simp, ?_⟩
    rw [← madeA]
    exact hown
  clear hown hgr hbb hmx hi hz0 hz1 hz2
  have HH := Lib.hid HO
  clear HO
  go_wp2
  go_loopw [4] (fun i wr => ∃ k : Nat, k ≤ xs.length ∧ i = .int .i64 k ∧ Below w.heap.size w wr ∧ w.heap.size < wr.heap.size ∧ ∃ zs : List Aw, zs.length = xs.length ∧ zs.take k = xs.take k ∧ wr.ownsRow w.heap.size 99 7 (.slice (some ⟨w.heap.size, 0, none⟩) xs.length xs.length) xs.length (zs.flatMap encA)) (fun i _ => xs.length - (intOf i).toNat)
  case atStart =>
    obtain ⟨zs, h1, h2, h3⟩ := HH.out
    exact ⟨0, Nat.zero_le _, rfl, hbe, (World.ownsRow.lt h3 _ rfl).2, zs, h1, h2, h3⟩
  case round =>
    obtain ⟨k, hk, rfl, hb, hlt2, zs, hz, ht, ho⟩ := hrel
    by_cases hlt : k < xs.length
    · obtain ⟨⟨xa, xf, xt, xl, xc, xr, xk⟩, hx⟩ : ∃ x, xs.getD k aNone = x := ⟨_, rfl⟩
      obtain ⟨b, o, rfl, hab, c0, c1, c2, c3, c4, c5, c6⟩ := ((hI.more hB).below hb).cells7 hlt hx
      have HO := Lib.hid ho
      have HZ := Lib.hid hz
      have HT := Lib.hid ht
      have HX : Hid (xs[k] = ⟨xa, xf, xt, xl, xc, xr, xk⟩) := Lib.hid (by rw [← hx]; simp [List.getD, hlt])
      clear ho hz ht hx
      have i0 : (0 : Int) ≤ (k : Int) := by omega
      have i1 : (k : Int) < xs.length := by omega
      go_wp2_with fail
      refine (HD.out _ _ _ _ _ _ _ _).mono ?_
      rintro e w2 ⟨rfl, hb2⟩
      have hO2 := (show OwnR 99 encA 7 w.heap.size wr (.slice (some ⟨w.heap.size, 0, none⟩) xs.length xs.length) zs by unfold OwnR; rw [HZ.out]; exact HO.out).later hb2
      unfold OwnR at hO2
      rw [HZ.out] at hO2
      have hkz : k < zs.length := by rw [HZ.out]; exact hlt
      obtain ⟨y0, e0⟩ := flatA_cell (j := 0) hkz (by omega)
      obtain ⟨y1, e1⟩ := flatA_cell (j := 1) hkz (by omega)
      obtain ⟨y2, e2⟩ := flatA_cell (j := 2) hkz (by omega)
      obtain ⟨y3, e3⟩ := flatA_cell (j := 3) hkz (by omega)
      obtain ⟨y4, e4⟩ := flatA_cell (j := 4) hkz (by omega)
      obtain ⟨y5, e5⟩ := flatA_cell (j := 5) hkz (by omega)
      obtain ⟨y6, e6⟩ := flatA_cell (j := 6) hkz (by omega)
      have d0 := (World.ownsRow.cellAt hO2 (k * 7) (by omega)).trans e0
      have d1 := (World.ownsRow.cellAt hO2 (k * 7 + 1) (by omega)).trans e1
      have d2 := (World.ownsRow.cellAt hO2 (k * 7 + 2) (by omega)).trans e2
      have d3 := (World.ownsRow.cellAt hO2 (k * 7 + 3) (by omega)).trans e3
      have d4 := (World.ownsRow.cellAt hO2 (k * 7 + 4) (by omega)).trans e4
      have d5 := (World.ownsRow.cellAt hO2 (k * 7 + 5) (by omega)).trans e5
      have d6 := (World.ownsRow.cellAt hO2 (k * 7 + 6) (by omega)).trans e6
      have f0 := World.ownsRow.frozenAt hO2 (k * 7)
      have f1 := World.ownsRow.frozenAt hO2 (k * 7 + 1)
      have f2 := World.ownsRow.frozenAt hO2 (k * 7 + 2)
      have f3 := World.ownsRow.frozenAt hO2 (k * 7 + 3)
      have f4 := World.ownsRow.frozenAt hO2 (k * 7 + 4)
      have f5 := World.ownsRow.frozenAt hO2 (k * 7 + 5)
      have f6 := World.ownsRow.frozenAt hO2 (k * 7 + 6)
      have HO2 := Lib.hid hO2
      have hbb := hb.trans (hb2.mono hb.size)
      have hz2 : w.heap.size < w2.heap.size := by have := hb2.size; omega
      clear e0 e1 e2 e3 e4 e5 e6 hO2 hkz c0 c1 c2 c3 c4 c5 c6
      go_wp2_with fail
      go_roundw
      case rel =>
        obtain ⟨r0, _⟩ := World.ownsRow.stored HO2.out (k * 7) (.string xa)
        obtain ⟨r1, _⟩ := World.ownsRow.stored r0 (k * 7 + 1) (.int .i64 xf)
        obtain ⟨r2, _⟩ := World.ownsRow.stored r1 (k * 7 + 2) (.int .i64 xt)
        obtain ⟨r3, _⟩ := World.ownsRow.stored r2 (k * 7 + 3) (.int .i64 xl)
        obtain ⟨r4, _⟩ := World.ownsRow.stored r3 (k * 7 + 4) (.int .i64 xc)
        obtain ⟨r5, _⟩ := World.ownsRow.stored r4 (k * 7 + 5) (.int .i64 xr)
        obtain ⟨r6, _⟩ := World.ownsRow.stored r5 (k * 7 + 6) (.int .i64 xk)
        rw [flatA_set ⟨xa, xf, xt, xl, xc, xr, xk⟩ zs k (by rw [HZ.out]; exact hlt)] at r6
        refine ⟨k + 1, by omega, by go_num, ((((((hbb.setCell (by simp) _).setCell (by simp) _).setCell (by simp) _).setCell (by simp) _).setCell (by simp) _).setCell (by simp) _).setCell (by simp) _, by simpa using hz2, zs.set k ⟨xa, xf, xt, xl, xc, xr, xk⟩, by rw [List.length_set]; exact HZ.out, ?_, r6⟩
        rw [← HX.out]
        exact take_set_succ' HZ.out hlt HT.out
      case measure => simp [intOf]; omega
    · obtain rfl : k = xs.length := by omega
      have HE := Lib.hid (take_all_eq' hz ht)
      have HO := Lib.hid ho
      clear ho hz ht
      go_wp2
      go_ret
      refine ⟨rfl, ?_, hb⟩
      have h := HO.out
      rw [HE.out] at h
      exact h
/-- How many letters the names of the first k airways hold. -/
def idLen (xs : List Aw) : Nat → Int | 0 => 0 | k + 1 => idLen xs k + (xs.getD k aNone).id.size
theorem idLen_nonneg (xs : List Aw) : ∀ k, 0 ≤ idLen xs k
  | 0 => by simp [idLen]
  | k + 1 => by have := idLen_nonneg xs k; unfold idLen; omega
theorem idLen_mono (xs : List Aw) : ∀ (d k : Nat), idLen xs k ≤ idLen xs (k + d)
  | 0, k => Int.le_refl _
  | d + 1, k => by have := idLen_mono xs d k; have e : idLen xs (k + (d + 1)) = idLen xs (k + d) + (xs.getD (k + d) aNone).id.size := rfl; omega
def szA (xs : List Aw) (left : Int) : Int := if (xs.length : Int) + idLen xs xs.length ≤ left then left - xs.length - idLen xs xs.length else -1
/-- All names are strings of a length that can be, all numbers fit. -/
def FitsA (xs : List Aw) : Prop := ∀ x ∈ xs, x.id.size ≤ maxLen ∧ (-9223372036854775808 ≤ x.f ∧ x.f ≤ 9223372036854775807) ∧ (-9223372036854775808 ≤ x.t ∧ x.t ≤ 9223372036854775807) ∧ (-9223372036854775808 ≤ x.l ∧ x.l ≤ 9223372036854775807) ∧ (-9223372036854775808 ≤ x.c ∧ x.c ≤ 9223372036854775807) ∧ (-9223372036854775808 ≤ x.r ∧ x.r ≤ 9223372036854775807) ∧ (-9223372036854775808 ≤ x.k ∧ x.k ≤ 9223372036854775807)
theorem FitsA.id {xs : List Aw} (h : FitsA xs) (k : Nat) : (xs.getD k aNone).id.size ≤ maxLen := by
  by_cases hk : k < xs.length
  · rw [show xs.getD k aNone = xs[k] by simp [List.getD, hk]]; exact (h _ (List.getElem_mem hk)).1
  · rw [show xs.getD k aNone = aNone by simp [List.getD, List.getElem?_eq_none (by omega : xs.length ≤ k)]]; exact Nat.zero_le _
set_option maxRecDepth 100000 in
theorem szAirwayS_any (A : Option Addr) (c : Nat) (xs : List Aw) (left : Int) (B : Nat) (w : World) (h1 : 0 ≤ left) (h0 : left ≤ 1048576) (hn : xs.length ≤ maxLen) (hF : FitsA xs) (hI : Recs encA 7 B w A xs) (hB : B ≤ w.heap.size) :
    Calls Tryz.prog 34 #[.slice A xs.length c, .int .i64 left] w fun e w' => e = .returned (.int .i64 (szA xs left)) ∧ Below w.heap.size w w' := by
  obtain ⟨R, hR⟩ : ∃ R, R = szA xs left := ⟨_, rfl⟩
  rw [← hR]
  have HR := Lib.hid hR
  clear hR
  have J := Lib.hid (hI.more hB)
  clear hI
  have HL := Lib.hid hF.id
  clear hF
  have HN := Lib.hid (idLen_nonneg xs)
  have hz := HN.out xs.length
  unfold maxLen at hn
  by_cases h2 : left < xs.length
  · have HF : Hid (szA xs left = -1) := Lib.hid (by unfold szA; rw [if_neg (by omega)])
    clear hz
    go_enter Tryz.func34, Tryz.ntmps34
    go_wp2
    go_ret
    exact ⟨ret_int (by rw [HR.out, HF.out]), Below.refl _ _⟩
  obtain ⟨m, m1, m2, m3⟩ := first_stop (fun k => decide ((xs.length : Int) + idLen xs (k + 1) ≤ left)) xs.length
  have M2 := Lib.hid m2
  have M3 := Lib.hid m3
  clear m2 m3 hz
  go_enter Tryz.func34, Tryz.ntmps34
  go_wp2
  go_loopw [1, 5] (fun s i wr => ∃ k : Nat, k ≤ m ∧ i = .int .i64 k ∧ s = .int .i64 (left - xs.length - idLen xs k) ∧ (xs.length : Int) + idLen xs k ≤ left ∧ Below w.heap.size w wr) (fun _ i _ => xs.length - (intOf i).toNat)
  case atStart => exact ⟨0, Nat.zero_le _, rfl, by simp [idLen], by simp [idLen]; omega, Below.refl _ _⟩
  case round =>
    obtain ⟨k, hk, rfl, rfl, hle, hb⟩ := hrel
    have hz := HN.out k
    by_cases hlt : k < xs.length
    · obtain ⟨⟨xa, xf, xt, xl, xc, xr, xk⟩, hx⟩ : ∃ x, xs.getD k aNone = x := ⟨_, rfl⟩
      obtain ⟨b, o, rfl, hab, c0, c1, c2, c3, c4, c5, c6⟩ := (J.out.below hb).cells7 hlt hx
      have hs : idLen xs (k + 1) = idLen xs k + xa.size := by rw [idLen, hx]
      have hlen : xa.size ≤ maxLen := by have := HL.out k; rw [hx] at this; exact this
      have i0 : (0 : Int) ≤ (k : Int) := by omega
      have i1 : (k : Int) < xs.length := by omega
      have HS := Lib.hid hs
      by_cases hkm : k < m
      · have hp := of_decide_eq_true (M2.out k hkm)
        rw [hs] at hp
        generalize idLen xs k = tl at *
        have HZ := Lib.hid (fun W => szAirway_yes xa xf xt xl xc xr xk (left - xs.length - tl) W (by omega) (by omega))
        clear hs hlen hx
        go_wp2_with (go_at_call 65; refine (HZ.out _).mono ?_; rintro e w' ⟨rfl, hb2⟩)
        go_roundw
        case rel => exact ⟨k + 1, by omega, by go_num, by rw [HS.out]; go_num, by rw [HS.out]; omega, hb.trans (hb2.mono hb.size)⟩
        case measure => simp [intOf]; omega
      · obtain rfl : m = k := by omega
        have hp := of_decide_eq_false (M3.out hlt)
        rw [hs] at hp
        have HF : Hid (szA xs left = -1) := Lib.hid (by
          unfold szA
          have h5 := idLen_mono xs (xs.length - (m + 1)) (m + 1)
          rw [show m + 1 + (xs.length - (m + 1)) = xs.length by omega] at h5
          rw [if_neg (by omega)])
        generalize idLen xs m = tl at *
        have HZ := Lib.hid (fun W => szAirway_no xa xf xt xl xc xr xk (left - xs.length - tl) W (by omega) (by omega) hlen (by omega))
        clear hs hlen hx
        go_wp2_with (go_at_call 65; refine (HZ.out _).mono ?_; rintro e w' ⟨rfl, hb2⟩)
        go_ret
        exact ⟨ret_int (by rw [HR.out, HF.out]), hb.trans (hb2.mono hb.size)⟩
    · obtain rfl : k = xs.length := by omega
      have HF : Hid (szA xs left = left - xs.length - idLen xs xs.length) := Lib.hid (by unfold szA; rw [if_pos hle])
      generalize idLen xs xs.length = tl at *
      go_wp2
      go_ret
      exact ⟨ret_int (by rw [HR.out, HF.out]), hb⟩
theorem eqAirway_yes (s : ByteArray) (f t l c r k : Int) (w : World) :
    Calls Tryz.prog 70 #[.agg #[.string s, .int .i64 f, .int .i64 t, .int .i64 l, .int .i64 c, .int .i64 r, .int .i64 k], .agg #[.string s, .int .i64 f, .int .i64 t, .int .i64 l, .int .i64 c, .int .i64 r, .int .i64 k]] w fun e w' => e = .returned (.bool true) ∧ Below w.heap.size w w' := by
  go_enter Tryz.func70, Tryz.ntmps70
  go_wp2
  go_ret
  exact ⟨rfl, by go_grown⟩
set_option maxRecDepth 100000 in
set_option maxHeartbeats 800000 in
theorem eqAirwayS_yes (A A' : Option Addr) (c c' : Nat) (xs : List Aw) (B B' : Nat) (w : World) (hn : xs.length ≤ 1099511627776) (hI : Recs encA 7 B w A xs) (hI' : Recs encA 7 B' w A' xs) (hB : B ≤ w.heap.size) (hB' : B' ≤ w.heap.size) :
    Calls Tryz.prog 39 #[.slice A xs.length c, .slice A' xs.length c'] w fun e w' => e = .returned (.bool true) ∧ Below w.heap.size w w' := by
  have J := Lib.hid (hI.more hB)
  have J' := Lib.hid (hI'.more hB')
  clear hI hI'
  go_enter Tryz.func39, Tryz.ntmps39
  go_wp2
  go_loopw [5] (fun i wr => ∃ k : Nat, k ≤ xs.length ∧ i = .int .i64 k ∧ Below w.heap.size w wr) (fun i _ => xs.length - (intOf i).toNat)
  case atStart => exact ⟨0, Nat.zero_le _, rfl, Below.refl _ _⟩
  case round =>
    obtain ⟨k, hk, rfl, hb⟩ := hrel
    by_cases hlt : k < xs.length
    · obtain ⟨⟨xa, xf, xt, xl, xc, xr, xk⟩, hx⟩ : ∃ x, xs.getD k aNone = x := ⟨_, rfl⟩
      obtain ⟨b, o, rfl, hab, c0, c1, c2, c3, c4, c5, c6⟩ := (J.out.below hb).cells7 hlt hx
      obtain ⟨b', o', rfl, hab', d0, d1, d2, d3, d4, d5, d6⟩ := (J'.out.below hb).cells7 hlt hx
      have HE := Lib.hid (eqAirway_yes xa xf xt xl xc xr xk)
      have i0 : (0 : Int) ≤ (k : Int) := by omega
      have i1 : (k : Int) < xs.length := by omega
      have e0 := fun L : Later wr => L.cell c0
      have e1 := fun L : Later wr => L.cell c1
      have e2 := fun L : Later wr => L.cell c2
      have e3 := fun L : Later wr => L.cell c3
      have e4 := fun L : Later wr => L.cell c4
      have e5 := fun L : Later wr => L.cell c5
      have e6 := fun L : Later wr => L.cell c6
      have g0 := fun L : Later wr => L.cell d0
      have g1 := fun L : Later wr => L.cell d1
      have g2 := fun L : Later wr => L.cell d2
      have g3 := fun L : Later wr => L.cell d3
      have g4 := fun L : Later wr => L.cell d4
      have g5 := fun L : Later wr => L.cell d5
      have g6 := fun L : Later wr => L.cell d6
      clear c0 c1 c2 c3 c4 c5 c6 d0 d1 d2 d3 d4 d5 d6 hx
      go_wp2
      refine wp_region_later (by kernel_rfl) (by kernel_rfl) ?_
      repeat (go_big_quiet_step ((go_at_call 70; first | (with_reducible exact later_b (HE.out _)) | (with_reducible exact later_d (HE.out _)) | (with_reducible exact later_s (HE.out _)))))
      refine wpQuiet_nil ?_
      intro _ hw'
      obtain ⟨LL, hw''⟩ := hw'
      subst hw''
      clear e0 e1 e2 e3 e4 e5 e6 g0 g1 g2 g3 g4 g5 g6
      have hb2 := hb.trans (LL.below.mono hb.size)
      go_wp2
      go_roundw
      case rel => exact ⟨k + 1, by omega, by go_num, hb2⟩
      case measure => simp [intOf]; omega
    · go_wp2
      go_ret
      exact ⟨rfl, hb⟩
end Go.Proofs.YtejkoicgbgoiaaaGreat

/- More shapes of arguments: a mine: a number and a slice of structs of a string and six numbers. No conditions. -/
namespace Go.Proofs.YtejkoicgbgoiaaaGreat
open Go.ChangeShapes Go.WideShapes Go.ChangeAt Go.RowKit Go.Joins Go.Deep
section
variable {H : Type} {enc : TypeId × Value → H} {P : Program} {w : World} {base : Nat} {spare : Nat → Bool} {held : Bool}
theorem spot_none {w : World} {a : Addr} {v : Value} (h : w.cell? a = some v) : a.spot = none := by
  unfold World.cell? at h
  split at h
  · split at h
    · cases h
    · rename_i hs; simpa using hs
  · cases h
/-- A slice of structs: each field's cell and reading. -/
theorem open_slice_fields {t e : TypeId} {fs : Array Field} {fuel : Nat} {cs : List Value} {x : DataW H × List MemPlace} (ht : P.underlying t = some (.slice e)) (he : P.underlying e = some (.struct fs))
    (hone : oneCellFields P fs = true) (hC : P.cellsOf e = fs.size) (h : DataW.trod enc P w base spare held fuel t cs = some x) :
    (cs = [.slice none 0 0]) ∨
    ∃ (a : Addr) (len cap m : Nat) (p : List MemPlace), cs = [.slice (some a) len cap] ∧ len ≤ cap ∧ cap ≤ maxLen ∧ m = (if spare a.block then cap else len) ∧ x.2 = MemPlace.row a (m * fs.size) ++ p ∧
      ∀ i, i < m → ∀ (j : Nat) (f : Field), fs[j]? = some f → ∃ (v : Value) (y : DataW H × List MemPlace) (n : Nat), w.cell? (a.add (i * fs.size + j)) = some v ∧ DataW.trod enc P w base spare held n f.type [v] = some y := by
  rcases open_slice ht h with ⟨h0, _⟩ | ⟨a, len, cap, m, n, D, Pl, hcs, hb, hl, hm, hmm, hx, hi⟩
  · exact .inl h0
  · refine .inr ⟨a, len, cap, m, (List.range m).flatMap Pl, hcs, hl, hm, hmm, by rw [hx, hC], fun i him j f hj => ?_⟩
    obtain ⟨cs', hc, ht'⟩ := hi i him
    rw [hC] at hc
    obtain ⟨ys, n', hn', hy, hlen, hyl, hf⟩ := DataW.trod_struct he ht'
    obtain ⟨_, hcl, hat⟩ := World.cells?_some hc
    obtain ⟨ho, hk⟩ := hone_of hone j f hj
    have hjl : j < fs.size := (Array.getElem?_eq_some_iff.1 hj).1
    have hcell := hat j hjl
    have hv : cs'[j]? = some (cs'[j]'(by omega)) := List.getElem?_eq_getElem (by omega)
    have h1 := hf j f hj
    rw [ho, hk] at h1
    have hone' : (cs'.drop j).take 1 = [cs'[j]'(by omega)] := by
      rw [List.drop_eq_getElem_cons (by omega)]
      rfl
    rw [hone'] at h1
    have hys : ys[j]? = some (ys[j]'(by omega)) := List.getElem?_eq_getElem (by omega)
    refine ⟨_, _, n', ?_, h1.trans hys⟩
    rw [← Go.Deep.add_add, hcell, hv]
theorem open_airways {W : World} {t e : TypeId} {f0 f1 f2 f3 f4 f5 f6 : Field} {fuel : Nat} {v : Value} {x : DataW H × List MemPlace} (ht : P.underlying t = some (.slice e)) (he : P.underlying e = some (.struct #[f0, f1, f2, f3, f4, f5, f6]))
    (g0 : P.underlying f0.type = some .string) (g1 : P.underlying f1.type = some (.int .i64)) (g2 : P.underlying f2.type = some (.int .i64)) (g3 : P.underlying f3.type = some (.int .i64)) (g4 : P.underlying f4.type = some (.int .i64)) (g5 : P.underlying f5.type = some (.int .i64)) (g6 : P.underlying f6.type = some (.int .i64))
    (hone : oneCellFields P #[f0, f1, f2, f3, f4, f5, f6] = true) (hC : P.cellsOf e = 7) (h : DataW.trod enc P W 0 (fun _ => true) true fuel t [v] = some x) (hlt : ∀ p ∈ x.2, p.block < W.heap.size) :
    ∃ (A : Option Addr) (c : Nat) (xs : List Aw), v = .slice A xs.length c ∧ Recs encA 7 W.heap.size W A xs ∧ FitsA xs ∧ xs.length ≤ maxLen := by
  rcases open_slice_fields ht he hone hC h with hcs | ⟨a, len, cap, m, p, hcs, hl, hm, hmm, hx, hi⟩
  · simp only [List.cons.injEq, and_true] at hcs
    subst hcs
    exact ⟨none, 0, [], rfl, Recs.nil, by simp [FitsA], by simp⟩
  · simp only [List.cons.injEq, and_true] at hcs
    subst hcs
    rw [if_pos rfl] at hmm
    subst hmm
    have hz : ∀ i, i < len → ∃ z : Aw, (∀ j u, (encA z)[j]? = some u → W.cell? (a.add (i * 7 + j)) = some u) ∧ FitsA [z] := by
      intro i hi'
      obtain ⟨v0, y0, n0, c0, t0⟩ := hi i (by omega) 0 f0 rfl
      obtain ⟨s, e0, _, b0⟩ := DataW.trod_string g0 t0
      simp only [List.cons.injEq, and_true] at e0
      subst e0
      obtain ⟨v1, y1, n1, c1, t1⟩ := hi i (by omega) 1 f1 rfl
      obtain ⟨z1, e1, _, b1⟩ := DataW.trod_int g1 t1
      simp only [List.cons.injEq, and_true] at e1
      subst e1
      obtain ⟨v2, y2, n2, c2, t2⟩ := hi i (by omega) 2 f2 rfl
      obtain ⟨z2, e2, _, b2⟩ := DataW.trod_int g2 t2
      simp only [List.cons.injEq, and_true] at e2
      subst e2
      obtain ⟨v3, y3, n3, c3, t3⟩ := hi i (by omega) 3 f3 rfl
      obtain ⟨z3, e3, _, b3⟩ := DataW.trod_int g3 t3
      simp only [List.cons.injEq, and_true] at e3
      subst e3
      obtain ⟨v4, y4, n4, c4, t4⟩ := hi i (by omega) 4 f4 rfl
      obtain ⟨z4, e4, _, b4⟩ := DataW.trod_int g4 t4
      simp only [List.cons.injEq, and_true] at e4
      subst e4
      obtain ⟨v5, y5, n5, c5, t5⟩ := hi i (by omega) 5 f5 rfl
      obtain ⟨z5, e5, _, b5⟩ := DataW.trod_int g5 t5
      simp only [List.cons.injEq, and_true] at e5
      subst e5
      obtain ⟨v6, y6, n6, c6, t6⟩ := hi i (by omega) 6 f6 rfl
      obtain ⟨z6, e6, _, b6⟩ := DataW.trod_int g6 t6
      simp only [List.cons.injEq, and_true] at e6
      subst e6
      refine ⟨⟨s, z1, z2, z3, z4, z5, z6⟩, fun j u hu => ?_, ?_⟩
      · have hj7 : j < 7 := (List.getElem?_eq_some_iff.1 hu).1
        match j, hj7 with
        | 0, _ => rw [← hu]; exact c0
        | 1, _ => rw [← hu]; exact c1
        | 2, _ => rw [← hu]; exact c2
        | 3, _ => rw [← hu]; exact c3
        | 4, _ => rw [← hu]; exact c4
        | 5, _ => rw [← hu]; exact c5
        | 6, _ => rw [← hu]; exact c6
      · intro x hx'
        obtain rfl := List.mem_singleton.1 hx'
        exact ⟨b0, bounds_i64 b1, bounds_i64 b2, bounds_i64 b3, bounds_i64 b4, bounds_i64 b5, bounds_i64 b6⟩
    let F : Nat → Aw := fun i => if h : i < len then Classical.choose (hz i h) else aNone
    have hF : ∀ i, i < len → (∀ j u, (encA (F i))[j]? = some u → W.cell? (a.add (i * 7 + j)) = some u) ∧ FitsA [F i] := by
      intro i h1
      have e : F i = Classical.choose (hz i h1) := dif_pos h1
      rw [e]
      exact Classical.choose_spec (hz i h1)
    let xs : List Aw := (List.range len).map F
    have hxl : xs.length = len := by simp [xs]
    refine ⟨some a, m, xs, by rw [hxl], ?_, ?_, by omega⟩
    · intro hpos
      rw [hxl] at hpos
      have hb : a.block < W.heap.size := by
        refine hlt (MemPlace.cell a.block a.off) ?_
        rw [hx]
        exact List.mem_append_left _ (row_head (by show 0 < m * 7; omega))
      have hs : a.spot = none := spot_none (by have := (hF 0 hpos).1 0 (.string (F 0).id) rfl; rw [show a.add (0 * 7 + 0) = a by simp [Addr.add]] at this; exact this)
      obtain ⟨b, o, s⟩ := a
      simp only at hs
      subst hs
      refine ⟨b, o, rfl, hb, fun k hk j u hu => ?_⟩
      rw [hxl] at hk
      have e : xs[k] = F k := by simp [xs]
      rw [e] at hu
      have hc := (hF k hk).1 j u hu
      rw [Addr.add_lit, ← Nat.add_assoc] at hc
      exact hc
    · intro x hx'
      obtain ⟨i, hi', rfl⟩ := List.mem_map.1 hx'
      exact (hF i (List.mem_range.1 hi')).2 _ (List.mem_singleton.2 rfl)
end
end Go.Proofs.YtejkoicgbgoiaaaGreat

/- Mines: when one is valid, by the program and by the reference; the laws' own functions on mines. Conditions: the facts on memory and on lengths that each theorem names. -/
namespace Go.Proofs.YtejkoicgbgoiaaaGreat
open Go.RowKit
open Pl
/-! ### Names in order -/
theorem less_flip : ∀ a b : List UInt8, (Op.bytesLess a b = true → Op.bytesLess b a = false ∧ (b == a) = false) ∧ (Op.bytesLess a b = false → Op.bytesLess b a = true ∨ (Op.bytesLess b a = false ∧ (b == a) = true))
  | [], [] => ⟨fun h => by simp [Op.bytesLess] at h, fun _ => .inr ⟨rfl, rfl⟩⟩
  | [], b :: ys => ⟨fun _ => ⟨rfl, rfl⟩, fun h => by simp [Op.bytesLess] at h⟩
  | a :: xs, [] => ⟨fun h => by simp [Op.bytesLess] at h, fun _ => .inl rfl⟩
  | a :: xs, b :: ys => by
    obtain ⟨h1, h2⟩ := less_flip xs ys
    have ha : ∀ x y : UInt8, x < y ∨ x = y ∨ y < x := fun x y => by
      rcases Nat.lt_trichotomy x.toNat y.toNat with h | h | h
      · exact .inl (UInt8.lt_iff_toNat_lt.2 h)
      · exact .inr (.inl (UInt8.toNat_inj.1 h))
      · exact .inr (.inr (UInt8.lt_iff_toNat_lt.2 h))
    have irr : ∀ x y : UInt8, x < y → ¬ y < x ∧ x ≠ y := fun x y h => by
      have h := UInt8.lt_iff_toNat_lt.1 h
      exact ⟨fun h' => by have := UInt8.lt_iff_toNat_lt.1 h'; omega, fun e => by subst e; omega⟩
    rcases ha a b with h | rfl | h
    · obtain ⟨i1, i2⟩ := irr a b h
      have e1 : Op.bytesLess (a :: xs) (b :: ys) = true := by simp [Op.bytesLess, h]
      have e2 : Op.bytesLess (b :: ys) (a :: xs) = false := by simp [Op.bytesLess, i1, Ne.symm i2]
      rw [e1, e2]
      refine ⟨fun _ => ⟨rfl, by simp [Ne.symm i2]⟩, fun h => by cases h⟩
    · have i : ¬ a < a := fun h => (irr a a h).2 rfl
      have e1 : Op.bytesLess (a :: xs) (a :: ys) = Op.bytesLess xs ys := by simp [Op.bytesLess, i]
      have e2 : Op.bytesLess (a :: ys) (a :: xs) = Op.bytesLess ys xs := by simp [Op.bytesLess, i]
      rw [e1, e2]
      refine ⟨fun h => ?_, fun h => ?_⟩
      · obtain ⟨g1, g2⟩ := h1 h; exact ⟨g1, by simpa using g2⟩
      · rcases h2 h with g | ⟨g1, g2⟩
        · exact .inl g
        · exact .inr ⟨g1, by simpa using g2⟩
    · obtain ⟨i1, i2⟩ := irr b a h
      have e1 : Op.bytesLess (a :: xs) (b :: ys) = false := by simp [Op.bytesLess, i1, Ne.symm i2]
      have e2 : Op.bytesLess (b :: ys) (a :: xs) = true := by simp [Op.bytesLess, h]
      rw [e1, e2]
      refine ⟨fun h => (by cases h), fun _ => .inl rfl⟩
/-- A valid mine. -/
noncomputable def awOk (a : Aw) : Bool := airwayB a.id a.f a.t a.l a.c a.r a.k
def endsB (J : Int) (a : Aw) : Bool := inB a.f 0 (J - 1) && inB a.t 0 (J - 1)
def ordB (xs : List Aw) (k : Nat) : Bool := decide (k = 0) || Op.bytesLess (xs.getD (k - 1) aNone).id.toList (xs.getD k aNone).id.toList
noncomputable def mineP (J : Int) (xs : List Aw) (k : Nat) : Bool := awOk (xs.getD k aNone) && (endsB J (xs.getD k aNone) && ordB xs k)
noncomputable def mineB (J : Int) (xs : List Aw) : Bool := inB J 1 16 && (decide ((xs.length : Int) ≤ 24) && allUp (mineP J xs) xs.length)
theorem ordB_succ (xs : List Aw) (k : Nat) : ordB xs (k + 1) = Op.bytesLess (xs.getD k aNone).id.toList (xs.getD (k + 1) aNone).id.toList := by unfold ordB; simp
theorem mineB_bd {J : Int} {xs : List Aw} (h : mineB J xs = true) : (1 ≤ J ∧ J ≤ 16) ∧ (xs.length : Int) ≤ 24 ∧ ∀ k, k < xs.length → awOk (xs.getD k aNone) = true ∧ endsB J (xs.getD k aNone) = true := by
  unfold mineB at h
  simp only [Bool.and_eq_true] at h
  obtain ⟨h1, h2, h3⟩ := h
  refine ⟨inB_iff.1 h1, of_decide_eq_true h2, fun k hk => ?_⟩
  have := (allUp_iff _ _).1 h3 k hk
  unfold mineP at this
  simp only [Bool.and_eq_true] at this
  exact ⟨this.1, this.2.1⟩
theorem hasJunction_any (J : Int) (A : Option Addr) (cp n : Nat) (x : Int) (w : World) (h1 : 1 ≤ J) (h2 : J ≤ 16) :
    Calls Tryz.prog 105 #[.agg #[.int .i64 J, .slice A n cp], .int .i64 x] w fun e w' => e = .returned (.bool (inB x 0 (J - 1))) ∧ Below w.heap.size w w' := by
  go_enter Tryz.func105, Tryz.ntmps105
  go_wp2_with (go_at_call 43; refine (within_any _ _ _ _).mono ?_; rintro e w' ⟨rfl, rfl⟩)
  go_ret
  exact ⟨rfl, by go_grown⟩
theorem hasEnds_any (J : Int) (A : Option Addr) (cp n : Nat) (s : ByteArray) (f t l c r k : Int) (w : World) (h1 : 1 ≤ J) (h2 : J ≤ 16) :
    Calls Tryz.prog 72 #[.agg #[.int .i64 J, .slice A n cp], .agg #[.string s, .int .i64 f, .int .i64 t, .int .i64 l, .int .i64 c, .int .i64 r, .int .i64 k]] w fun e w' => e = .returned (.bool (inB f 0 (J - 1) && inB t 0 (J - 1))) ∧ Below w.heap.size w w' := by
  have HF := Lib.hid (fun W => hasJunction_any J A cp n f W h1 h2)
  have HT := Lib.hid (fun W => hasJunction_any J A cp n t W h1 h2)
  cases e1 : inB f 0 (J - 1)
  · rw [e1] at HF
    clear e1
    go_enter Tryz.func72, Tryz.ntmps72
    go_wp2_with fail
    refine (HF.out _).mono ?_
    rintro e w1 ⟨rfl, hb1⟩
    obtain ⟨hc1, hf1⟩ := bcell hb1
    have q1_1 : w.heap.size + 1 < w1.heap.size := by have := hb1.size; simp at this; omega
    have q1_0 : w.heap.size < w1.heap.size := by have := hb1.size; simp at this; omega
    have be1 : Below w.heap.size w w1 := (((Below.refl w.heap.size w).alloc (by simp) _).alloc (by simp) _).trans (hb1.mono (by simp <;> omega))
    have hbe := be1
    go_wp2_with fail
    go_ret
    exact ⟨rfl, hbe⟩
  · rw [e1] at HF
    clear e1
    generalize inB t 0 (J - 1) = b at *
    go_enter Tryz.func72, Tryz.ntmps72
    go_wp2_with fail
    refine (HF.out _).mono ?_
    rintro e w1 ⟨rfl, hb1⟩
    obtain ⟨hc1, hf1⟩ := bcell hb1
    have q1_1 : w.heap.size + 1 < w1.heap.size := by have := hb1.size; simp at this; omega
    have q1_0 : w.heap.size < w1.heap.size := by have := hb1.size; simp at this; omega
    have be1 : Below w.heap.size w w1 := (((Below.refl w.heap.size w).alloc (by simp) _).alloc (by simp) _).trans (hb1.mono (by simp <;> omega))
    go_wp2_with fail
    refine (HT.out _).mono ?_
    rintro e w2 ⟨rfl, hb2⟩
    obtain ⟨hc2, hf2⟩ := bcell hb2
    have q2_1 : w.heap.size + 1 < w2.heap.size := by have := hb2.size; omega
    have q2_0 : w.heap.size < w2.heap.size := by have := hb2.size; omega
    have be2 : Below w.heap.size w w2 := be1.trans (hb2.mono (by omega))
    have hbe := be2
    go_wp2_with fail
    go_ret
    exact ⟨rfl, hbe⟩
set_option maxRecDepth 100000 in
set_option maxHeartbeats 3200000 in
theorem ValidMine_i (J : Int) (A : Option Addr) (cp : Nat) (xs : List Aw) (B : Nat) (w : World) (hn : (xs.length : Int) ≤ 1099511627776) (hF : FitsA xs) (hI : Recs encA 7 B w A xs) (hB : B ≤ w.heap.size) :
    Calls Tryz.prog 41 #[.agg #[.int .i64 J, .slice A xs.length cp]] w fun e w' => e = .returned (.bool (mineB J xs)) ∧ Below w.heap.size w w' := by
  obtain ⟨R, hR⟩ : ∃ R, R = mineB J xs := ⟨_, rfl⟩
  rw [← hR]
  have HR := Lib.hid hR
  clear hR
  have J0 := Lib.hid (hI.more hB)
  have HL := Lib.hid hF.id
  clear hI hF
  cases hj : inB J 1 16
  · have HN : Hid (mineB J xs = false) := Lib.hid (by unfold mineB; rw [hj]; rfl)
    go_enter Tryz.func41, Tryz.ntmps41
    go_wp2_with (go_at_call 43; refine (eqb (within_any _ _ _ _) hj).mono ?_; rintro e w' ⟨rfl, rfl⟩)
    go_ret
    exact ⟨ret_bool (by rw [HR.out, HN.out]), by go_grown⟩
  obtain ⟨j1, j2⟩ := inB_iff.1 hj
  by_cases h24 : (xs.length : Int) ≤ 24
  rotate_left
  · have HN : Hid (mineB J xs = false) := Lib.hid (by unfold mineB; rw [decide_eq_false h24]; simp)
    go_enter Tryz.func41, Tryz.ntmps41
    go_wp2_with (go_at_call 43; refine (eqb (within_any _ _ _ _) hj).mono ?_; rintro e w' ⟨rfl, rfl⟩)
    go_ret
    exact ⟨ret_bool (by rw [HR.out, HN.out]), by go_grown⟩
  obtain ⟨m, m1, m2, m3⟩ := first_stop (mineP J xs) xs.length
  have HM : Hid (mineB J xs = decide (m = xs.length)) := Lib.hid (by unfold mineB; rw [hj, decide_eq_true h24, allUp_stop m1 m2 m3]; rfl)
  have M2 := Lib.hid m2
  have M3 := Lib.hid m3
  clear m2 m3
  go_enter Tryz.func41, Tryz.ntmps41
  go_wp2_with (go_at_call 43; refine (eqb (within_any _ _ _ _) hj).mono ?_; rintro e w' ⟨rfl, rfl⟩)
  go_loopw [18] (fun i wr => ∃ q : Nat, q ≤ m ∧ i = .int .i64 q ∧ Below w.heap.size w wr ∧ w.heap.size < wr.heap.size ∧ wr.cell? ⟨w.heap.size, 0, none⟩ = some (.int .i64 J) ∧ wr.cell? ⟨w.heap.size, 1, none⟩ = some (.slice A xs.length cp)) (fun i _ => xs.length - (intOf i).toNat)
  case atStart => exact ⟨0, Nat.zero_le _, rfl, by go_grown, by simp, by simp, by simp⟩
  case round =>
    obtain ⟨q, hq, rfl, hb, hz, m0, m1'⟩ := hrel
    by_cases hlt : q < xs.length
    · obtain ⟨⟨s, f, t, l, c, r, k⟩, hx⟩ : ∃ x, xs.getD q aNone = x := ⟨_, rfl⟩
      obtain ⟨b, o, rfl, hab, c0, c1, c2, c3, c4, c5, c6⟩ := (J0.out.below hb).cells7 hlt hx
      have hs : s.size ≤ maxLen := by have := HL.out q; rw [hx] at this; exact this
      have i0 : (0 : Int) ≤ (q : Int) := by omega
      have i1 : (q : Int) < xs.length := by omega
      have e0 := fun L : Later (wr.alloc (.cells #[.string s, .int .i64 f, .int .i64 t, .int .i64 l, .int .i64 c, .int .i64 r, .int .i64 k] 99)) => L.cell (p := ⟨wr.heap.size, 0, none⟩) (v := .string s) (by simp)
      have e1 := fun L : Later (wr.alloc (.cells #[.string s, .int .i64 f, .int .i64 t, .int .i64 l, .int .i64 c, .int .i64 r, .int .i64 k] 99)) => L.cell (p := ⟨wr.heap.size, 1, none⟩) (v := .int .i64 f) (by simp)
      have e2 := fun L : Later (wr.alloc (.cells #[.string s, .int .i64 f, .int .i64 t, .int .i64 l, .int .i64 c, .int .i64 r, .int .i64 k] 99)) => L.cell (p := ⟨wr.heap.size, 2, none⟩) (v := .int .i64 t) (by simp)
      have e3 := fun L : Later (wr.alloc (.cells #[.string s, .int .i64 f, .int .i64 t, .int .i64 l, .int .i64 c, .int .i64 r, .int .i64 k] 99)) => L.cell (p := ⟨wr.heap.size, 3, none⟩) (v := .int .i64 l) (by simp)
      have e4 := fun L : Later (wr.alloc (.cells #[.string s, .int .i64 f, .int .i64 t, .int .i64 l, .int .i64 c, .int .i64 r, .int .i64 k] 99)) => L.cell (p := ⟨wr.heap.size, 4, none⟩) (v := .int .i64 c) (by simp)
      have e5 := fun L : Later (wr.alloc (.cells #[.string s, .int .i64 f, .int .i64 t, .int .i64 l, .int .i64 c, .int .i64 r, .int .i64 k] 99)) => L.cell (p := ⟨wr.heap.size, 5, none⟩) (v := .int .i64 r) (by simp)
      have e6 := fun L : Later (wr.alloc (.cells #[.string s, .int .i64 f, .int .i64 t, .int .i64 l, .int .i64 c, .int .i64 r, .int .i64 k] 99)) => L.cell (p := ⟨wr.heap.size, 6, none⟩) (v := .int .i64 k) (by simp)
      have g0 := fun L : Later (wr.alloc (.cells #[.string s, .int .i64 f, .int .i64 t, .int .i64 l, .int .i64 c, .int .i64 r, .int .i64 k] 99)) => L.cell (Lib.cell?_alloc_some _ m0)
      have g1 := fun L : Later (wr.alloc (.cells #[.string s, .int .i64 f, .int .i64 t, .int .i64 l, .int .i64 c, .int .i64 r, .int .i64 k] 99)) => L.cell (Lib.cell?_alloc_some _ m1')
      have HV := Lib.hid (fun W => ValidAirway_i s f t l c r k W hs)
      have HE := Lib.hid (fun W => hasEnds_any J (some ⟨b, o, none⟩) cp xs.length s f t l c r k W j1 j2)
      have hba : Below w.heap.size w (wr.alloc (.cells #[.string s, .int .i64 f, .int .i64 t, .int .i64 l, .int .i64 c, .int .i64 r, .int .i64 k] 99)) := hb.alloc (by omega) _
      by_cases hqm : q < m
      · have hp := M2.out q hqm
        unfold mineP at hp
        simp only [Bool.and_eq_true] at hp
        obtain ⟨p1, p2, p3⟩ := hp
        rw [hx] at p1 p2
        have p1 : airwayB s f t l c r k = true := p1
        have p2 : (inB f 0 (J - 1) && inB t 0 (J - 1)) = true := p2
        rw [p1] at HV
        rw [p2] at HE
        by_cases hq0 : q = 0
        · have hz0 : decide (0 < q) = false := decide_eq_false (by omega)
          clear p1 p2 p3 hx hq0
          go_wp2
          refine wp_region_later (by kernel_rfl) (by kernel_rfl) ?_
          repeat (go_big_quiet_step ((first | (go_at_call 71; first | (with_reducible exact later_b (HV.out _)) | (with_reducible exact later_d (HV.out _)) | (with_reducible exact later_s (HV.out _))) | (go_at_call 72; first | (with_reducible exact later_b (HE.out _)) | (with_reducible exact later_d (HE.out _)) | (with_reducible exact later_s (HE.out _))))))
          refine wpQuiet_nil ?_
          intro _ hw'
          obtain ⟨LL, hw''⟩ := hw'
          subst hw''
          go_wp2
          go_roundw
          case rel =>
            have hl : wr.heap.size + 1 ≤ LL.world.heap.size := by have := LL.size; simpa using this
            exact ⟨q + 1, by omega, by go_num, hba.trans (LL.below.mono (by simp; omega)), by omega, g0 LL, g1 LL⟩
          case measure => simp [intOf]; omega
        · obtain ⟨p, hp⟩ : ∃ p, q = p + 1 := ⟨q - 1, by omega⟩
          have hz0 : decide (0 < q) = true := decide_eq_true (by omega)
          obtain ⟨⟨s', f', t', l', c', r', k'⟩, hx'⟩ : ∃ x, xs.getD p aNone = x := ⟨_, rfl⟩
          obtain ⟨b', o', hbo, _, d0, -⟩ := (J0.out.below hb).cells7 (j := p) (by omega) hx'
          cases hbo
          rw [hp, ordB_succ, ← hp, hx, hx'] at p3
          have p3 : Op.bytesLess s'.toList s.toList = true := p3
          obtain ⟨o1, o2⟩ := (less_flip s'.toList s.toList).1 p3
          have g2 := fun L : Later (wr.alloc (.cells #[.string s, .int .i64 f, .int .i64 t, .int .i64 l, .int .i64 c, .int .i64 r, .int .i64 k] 99)) => L.cell (Lib.cell?_alloc_some _ d0)
          have w0 : (0 : Int) ≤ (p : Int) := by omega
          have w1 : (p : Int) < xs.length := by omega
          have hw : IntKind.i64.wrap ((q : Int) - 1) = (p : Int) := by rw [IntWalk.i64_in _ (by omega)]; omega
          clear p1 p2 p3 hx hx' hp hq0
          go_wp2
          refine wp_region_later (by kernel_rfl) (by kernel_rfl) ?_
          repeat (go_big_quiet_step ((first | (go_at_call 71; first | (with_reducible exact later_b (HV.out _)) | (with_reducible exact later_d (HV.out _)) | (with_reducible exact later_s (HV.out _))) | (go_at_call 72; first | (with_reducible exact later_b (HE.out _)) | (with_reducible exact later_d (HE.out _)) | (with_reducible exact later_s (HE.out _))))))
          refine wpQuiet_nil ?_
          intro _ hw'
          obtain ⟨LL, hw''⟩ := hw'
          subst hw''
          clear hw
          go_wp2
          go_roundw
          case rel =>
            have hl : wr.heap.size + 1 ≤ LL.world.heap.size := by have := LL.size; simpa using this
            exact ⟨q + 1, by omega, by go_num, hba.trans (LL.below.mono (by simp; omega)), by omega, g0 LL, g1 LL⟩
          case measure => simp [intOf]; omega
      · obtain rfl : m = q := by omega
        have HD := Lib.hid (decide_eq_false (show ¬ m = xs.length by omega))
        have hp := M3.out hlt
        unfold mineP at hp
        rw [hx] at hp
        have hp : (airwayB s f t l c r k && ((inB f 0 (J - 1) && inB t 0 (J - 1)) && ordB xs m)) = false := hp
        cases p1 : airwayB s f t l c r k
        · rw [p1] at HV
          clear p1 hp hx
          go_wp2
          refine wp_region_later (by kernel_rfl) (by kernel_rfl) ?_
          repeat (go_big_quiet_step ((go_at_call 71; first | (with_reducible exact later_b (HV.out _)) | (with_reducible exact later_d (HV.out _)) | (with_reducible exact later_s (HV.out _)))))
          refine wpQuiet_nil ?_
          intro _ hw'
          obtain ⟨LL, hw''⟩ := hw'
          subst hw''
          go_wp2
          go_ret
          exact ⟨ret_bool (by rw [HR.out, HM.out, HD.out]), hba.trans (LL.below.mono (by simp; omega))⟩
        · rw [p1] at HV hp
          cases p2 : (inB f 0 (J - 1) && inB t 0 (J - 1))
          · rw [p2] at HE
            clear p1 p2 hp hx
            go_wp2
            refine wp_region_later (by kernel_rfl) (by kernel_rfl) ?_
            repeat (go_big_quiet_step ((first | (go_at_call 71; first | (with_reducible exact later_b (HV.out _)) | (with_reducible exact later_d (HV.out _)) | (with_reducible exact later_s (HV.out _))) | (go_at_call 72; first | (with_reducible exact later_b (HE.out _)) | (with_reducible exact later_d (HE.out _)) | (with_reducible exact later_s (HE.out _))))))
            refine wpQuiet_nil ?_
            intro _ hw'
            obtain ⟨LL, hw''⟩ := hw'
            subst hw''
            go_wp2
            go_ret
            exact ⟨ret_bool (by rw [HR.out, HM.out, HD.out]), hba.trans (LL.below.mono (by simp; omega))⟩
          · rw [p2, Bool.true_and, Bool.true_and] at hp
            rw [p2] at HE
            have hq0 : m ≠ 0 := fun e => by rw [e] at hp; simp [ordB] at hp
            obtain ⟨p, hpm⟩ : ∃ p, m = p + 1 := ⟨m - 1, by omega⟩
            have hz0 : decide (0 < m) = true := decide_eq_true (by omega)
            obtain ⟨⟨s', f', t', l', c', r', k'⟩, hx'⟩ : ∃ x, xs.getD p aNone = x := ⟨_, rfl⟩
            obtain ⟨b', o', hbo, _, d0, -⟩ := (J0.out.below hb).cells7 (j := p) (by omega) hx'
            cases hbo
            rw [hpm, ordB_succ, ← hpm, hx, hx'] at hp
            have p3 : Op.bytesLess s'.toList s.toList = false := hp
            have g2 := fun L : Later (wr.alloc (.cells #[.string s, .int .i64 f, .int .i64 t, .int .i64 l, .int .i64 c, .int .i64 r, .int .i64 k] 99)) => L.cell (Lib.cell?_alloc_some _ d0)
            have w0 : (0 : Int) ≤ (p : Int) := by omega
            have w1 : (p : Int) < xs.length := by omega
            have hw : IntKind.i64.wrap ((m : Int) - 1) = (p : Int) := by rw [IntWalk.i64_in _ (by omega)]; omega
            rcases (less_flip s'.toList s.toList).2 p3 with o1 | ⟨o1, o2⟩
            · clear p1 p2 p3 hx hx' hpm hq0 hp
              go_wp2
              refine wp_region_later (by kernel_rfl) (by kernel_rfl) ?_
              repeat (go_big_quiet_step ((first | (go_at_call 71; first | (with_reducible exact later_b (HV.out _)) | (with_reducible exact later_d (HV.out _)) | (with_reducible exact later_s (HV.out _))) | (go_at_call 72; first | (with_reducible exact later_b (HE.out _)) | (with_reducible exact later_d (HE.out _)) | (with_reducible exact later_s (HE.out _))))))
              refine wpQuiet_nil ?_
              intro _ hw'
              obtain ⟨LL, hw''⟩ := hw'
              subst hw''
              clear hw
              go_wp2
              go_ret
              exact ⟨ret_bool (by rw [HR.out, HM.out, HD.out]), hba.trans (LL.below.mono (by simp; omega))⟩
            · clear p1 p2 p3 hx hx' hpm hq0 hp
              go_wp2
              refine wp_region_later (by kernel_rfl) (by kernel_rfl) ?_
              repeat (go_big_quiet_step ((first | (go_at_call 71; first | (with_reducible exact later_b (HV.out _)) | (with_reducible exact later_d (HV.out _)) | (with_reducible exact later_s (HV.out _))) | (go_at_call 72; first | (with_reducible exact later_b (HE.out _)) | (with_reducible exact later_d (HE.out _)) | (with_reducible exact later_s (HE.out _))))))
              refine wpQuiet_nil ?_
              intro _ hw'
              obtain ⟨LL, hw''⟩ := hw'
              subst hw''
              clear hw
              go_wp2
              go_ret
              exact ⟨ret_bool (by rw [HR.out, HM.out, HD.out]), hba.trans (LL.below.mono (by simp; omega))⟩
    · have HD := Lib.hid (decide_eq_true (show m = xs.length by omega))
      go_wp2
      go_ret
      exact ⟨ret_bool (by rw [HR.out, HM.out, HD.out]), hb⟩
theorem l04Junction_any (b o : Nat) (J x : Int) (w : World) (h1 : 1 ≤ J) (h2 : J ≤ 16) (c0 : w.cell? ⟨b, o, none⟩ = some (.int .i64 J)) :
    Calls Tryz.prog 135 #[.pointer (some ⟨b, o, none⟩), .int .i64 x] w fun e w' => e = .returned (.bool (inB x 0 (J - 1))) ∧ w = w' := by
  go_enter Tryz.func135, Tryz.ntmps135
  go_wp2_with (go_at_call 67; refine (l00In_any _ _ _ _).mono ?_; rintro e w' ⟨rfl, rfl⟩)
  go_ret
  exact ⟨rfl, rfl⟩
theorem toMine_any (J : Int) (A : Option Addr) (cp : Nat) (xs : List Aw) (B : Nat) (w : World) (hn : xs.length ≤ 1048576) (hI : Recs encA 7 B w A xs) (hB : B ≤ w.heap.size) :
    Calls Tryz.prog 10 #[.agg #[.int .i64 J, .slice A xs.length cp]] w fun e w' => ∃ v, e = .returned (.agg #[.int .i64 J, v]) ∧ OwnR 99 encA 7 w.heap.size w' v xs ∧ Below w.heap.size w w' := by
  have J0 := Lib.hid (hI.more hB)
  clear hI
  have hb0 : Below w.heap.size w (((w.alloc (.cells #[.int .i64 J, .slice A xs.length cp] 24)).alloc (.cells #[.int .i64 0, .slice none 0 0] 33)).alloc (.cells #[.int .i64 J, .slice none 0 0] 33)) := by go_grown
  have HB := Lib.hid hb0
  clear hb0
  go_enter Tryz.func10, Tryz.ntmps10
  go_wp2_with fail
  refine (toAirwayS_any A cp xs w.heap.size _ hn (J0.out.below HB.out) (by simp <;> omega)).mono ?_
  rintro e w1 ⟨rfl, ho, hb1⟩
  obtain ⟨hc1, hf1⟩ := bcell hb1
  have hz : w.heap.size + 1 + 1 < w1.heap.size := by have := hb1.size; simp at this; omega
  have hbe := HB.out.trans (hb1.mono (by simp <;> omega))
  have HO := Lib.hid ho
  have q1 : w.heap.size + 1 < (((w.alloc (.cells #[.int .i64 J, .slice A xs.length cp] 24)).alloc (.cells #[.int .i64 0, .slice none 0 0] 33)).alloc (.cells #[.int .i64 J, .slice none 0 0] 33)).heap.size := by simp
  have q2 : w.heap.size + 1 + 1 < (((w.alloc (.cells #[.int .i64 J, .slice A xs.length cp] 24)).alloc (.cells #[.int .i64 0, .slice none 0 0] 33)).alloc (.cells #[.int .i64 J, .slice none 0 0] 33)).heap.size := by simp
  have d0 : w1.cell? ⟨w.heap.size + 1 + 1, 0, none⟩ = some (.int .i64 J) := by rw [hc1 _ _ q2]; go_simp
  have d1 : w1.cell? ⟨w.heap.size + 1 + 1, 1, none⟩ = some (.slice none 0 0) := by rw [hc1 _ _ q2]; go_simp
  have d2 : w1.cell? ⟨w.heap.size + 1, 0, none⟩ = some (.int .i64 0) := by rw [hc1 _ _ q1]; go_simp
  have d3 : w1.cell? ⟨w.heap.size + 1, 1, none⟩ = some (.slice none 0 0) := by rw [hc1 _ _ q1]; go_simp
  have f1 : w1.frozen? ⟨w.heap.size + 1 + 1, 1, none⟩ = false := by rw [hf1 _ _ q2]; go_simp
  have f2 : w1.frozen? ⟨w.heap.size + 1, 0, none⟩ = false := by rw [hf1 _ _ q1]; go_simp
  have f3 : w1.frozen? ⟨w.heap.size + 1, 1, none⟩ = false := by rw [hf1 _ _ q1]; go_simp
  clear hc1 hf1 hb1 ho q1 q2
  go_wp2_with fail
  have t2 := (World.cell?_setCell_other w1 ⟨w.heap.size + 1 + 1, 1, none⟩ ⟨w.heap.size + 1, 0, none⟩ (.slice (some ⟨w.heap.size + 1 + 1 + 1, 0, none⟩) xs.length xs.length) (by simp)).trans d2
  have t3 := (World.cell?_setCell_other w1 ⟨w.heap.size + 1 + 1, 1, none⟩ ⟨w.heap.size + 1, 1, none⟩ (.slice (some ⟨w.heap.size + 1 + 1 + 1, 0, none⟩) xs.length xs.length) (by simp)).trans d3
  have u2 := setc_eq (v := .int .i64 J) t2
  have u3 := setc_ne (v := .int .i64 J) t3 (show 0 ≠ 1 by decide)
  have r0 := setc_ne (v := .slice (some ⟨w.heap.size + 1 + 1 + 1, 0, none⟩) xs.length xs.length) u2 (show 1 ≠ 0 by decide)
  have r1 := setc_eq (v := .slice (some ⟨w.heap.size + 1 + 1 + 1, 0, none⟩) xs.length xs.length) u3
  refine bodyPost_ret (v := .agg #[.int .i64 J, .slice (some ⟨w.heap.size + 1 + 1 + 1, 0, none⟩) xs.length xs.length]) (by simp [results, Tryz.results10, go_sem, r0, r1]) rfl ⟨_, rfl, ?_, ((hbe.setCell (by simp <;> omega) _).setCell (by simp) _).setCell (by simp) _⟩
  have h := HO.out
  unfold OwnR at h ⊢
  have h1 := ownsRow_setCell_below h (a := ⟨w.heap.size + 1 + 1, 1, none⟩) (by simp) (.slice (some ⟨w.heap.size + 1 + 1 + 1, 0, none⟩) xs.length xs.length)
  have h2 := ownsRow_setCell_below h1 (a := ⟨w.heap.size + 1, 0, none⟩) (by simp <;> omega) (.int .i64 J)
  have h3 := ownsRow_setCell_below h2 (a := ⟨w.heap.size + 1, 1, none⟩) (by simp <;> omega) (.slice (some ⟨w.heap.size + 1 + 1 + 1, 0, none⟩) xs.length xs.length)
  have h4 := OwnR.rebase (b' := w.heap.size) h3 (by simp <;> omega)
  unfold OwnR at h4
  simpa using h4
theorem szMine_any (J : Int) (A : Option Addr) (cp : Nat) (xs : List Aw) (left : Int) (B : Nat) (w : World) (h1 : 0 ≤ left) (h0 : left ≤ 1048576) (hn : xs.length ≤ maxLen) (hF : FitsA xs) (hI : Recs encA 7 B w A xs) (hB : B ≤ w.heap.size) :
    Calls Tryz.prog 7 #[.agg #[.int .i64 J, .slice A xs.length cp], .int .i64 left] w fun e w' => e = .returned (.int .i64 (szA xs left)) ∧ Below w.heap.size w w' := by
  have HS := Lib.hid (fun (W : World) (hb : Below w.heap.size w W) => szAirwayS_any A cp xs left w.heap.size W h1 h0 hn hF ((hI.more hB).below hb) hb.size)
  have hor : szA xs left = -1 ∨ 0 ≤ szA xs left := by unfold szA; split <;> omega
  generalize szA xs left = r at *
  clear hI hF
  rcases hor with rfl | hr
  · go_enter Tryz.func7, Tryz.ntmps7
    go_wp2_with fail
    refine (HS.out _ (by go_grown)).mono ?_
    rintro e w1 ⟨rfl, hb1⟩
    obtain ⟨hc1, hf1⟩ := bcell hb1
    have q1_0 : w.heap.size < w1.heap.size := by have := hb1.size; simp at this; omega
    have be1 : Below w.heap.size w w1 := ((Below.refl w.heap.size w).alloc (by simp) _).trans (hb1.mono (by simp))
    have hbe := be1
    go_wp2_with fail
    go_ret
    exact ⟨rfl, hbe⟩
  · go_enter Tryz.func7, Tryz.ntmps7
    go_wp2_with fail
    refine (HS.out _ (by go_grown)).mono ?_
    rintro e w1 ⟨rfl, hb1⟩
    obtain ⟨hc1, hf1⟩ := bcell hb1
    have q1_0 : w.heap.size < w1.heap.size := by have := hb1.size; simp at this; omega
    have be1 : Below w.heap.size w w1 := ((Below.refl w.heap.size w).alloc (by simp) _).trans (hb1.mono (by simp))
    have hbe := be1
    go_wp2_with fail
    go_ret
    exact ⟨rfl, hbe⟩
theorem eqMine_yes (J : Int) (A A' : Option Addr) (cp cp' : Nat) (xs : List Aw) (B B' : Nat) (w : World) (hn : xs.length ≤ 1099511627776) (hI : Recs encA 7 B w A xs) (hI' : Recs encA 7 B' w A' xs) (hB : B ≤ w.heap.size) (hB' : B' ≤ w.heap.size) :
    Calls Tryz.prog 14 #[.agg #[.int .i64 J, .slice A xs.length cp], .agg #[.int .i64 J, .slice A' xs.length cp']] w fun e w' => e = .returned (.bool true) ∧ Below w.heap.size w w' := by
  have HS := Lib.hid (fun (W : World) (hb : Below w.heap.size w W) => eqAirwayS_yes A A' cp cp' xs w.heap.size w.heap.size W hn ((hI.more hB).below hb) ((hI'.more hB').below hb) hb.size hb.size)
  clear hI hI'
  go_enter Tryz.func14, Tryz.ntmps14
  go_wp2_with fail
  refine (HS.out _ (by go_grown)).mono ?_
  rintro e w1 ⟨rfl, hb1⟩
  obtain ⟨hc1, hf1⟩ := bcell hb1
  have q1_1 : w.heap.size + 1 < w1.heap.size := by have := hb1.size; simp at this; omega
  have q1_0 : w.heap.size < w1.heap.size := by have := hb1.size; simp at this; omega
  have be1 : Below w.heap.size w w1 := (((Below.refl w.heap.size w).alloc (by simp) _).alloc (by simp) _).trans (hb1.mono (by simp <;> omega))
  have hbe := be1
  go_wp2_with fail
  go_ret
  exact ⟨rfl, hbe⟩
set_option maxRecDepth 100000 in
set_option maxHeartbeats 6400000 in
theorem l04Ok_any (bm om : Nat) (J : Int) (A : Option Addr) (cp : Nat) (xs : List Aw) (B : Nat) (w : World) (hn : (xs.length : Int) ≤ 1099511627776) (hF : FitsA xs) (hI : Recs encA 7 B w A xs) (m0 : w.cell? ⟨bm, om, none⟩ = some (.int .i64 J)) (mm : w.cell? ⟨bm, om + 1, none⟩ = some (.slice A xs.length cp)) :
    Calls Tryz.prog 100 #[.pointer (some ⟨bm, om, none⟩)] w fun e w' => e = .returned (.bool (mineB J xs)) ∧ ∃ n, w.drewN n = w' := by
  obtain ⟨R, hR⟩ : ∃ R, R = mineB J xs := ⟨_, rfl⟩
  rw [← hR]
  have HR := Lib.hid hR
  clear hR
  have J0 := Lib.hid hI
  have HL := Lib.hid hF.id
  clear hI hF
  cases hj : inB J 1 16
  · have HN : Hid (mineB J xs = false) := Lib.hid (by unfold mineB; rw [hj]; rfl)
    go_enter Tryz.func100, Tryz.ntmps100
    go_wp2_with (go_at_call 67; refine (eqb (l00In_any _ _ _ _) hj).mono ?_; rintro e w' ⟨rfl, rfl⟩)
    go_ret
    exact ⟨ret_bool (by rw [HR.out, HN.out]), 0, rfl⟩
  obtain ⟨j1, j2⟩ := inB_iff.1 hj
  obtain ⟨m, m1, m2, m3⟩ := first_stop (mineP J xs) xs.length
  have HM : Hid (mineB J xs = (decide ((xs.length : Int) ≤ 24) && decide (m = xs.length))) := Lib.hid (by unfold mineB; rw [hj, allUp_stop m1 m2 m3]; rfl)
  have M2 := Lib.hid m2
  have M3 := Lib.hid m3
  clear m2 m3
  go_enter Tryz.func100, Tryz.ntmps100
  go_wp2_with (go_at_call 67; refine (eqb (l00In_any _ _ _ _) hj).mono ?_; rintro e w' ⟨rfl, rfl⟩)
  go_loopw [3] (fun i wr => ∃ q : Nat, q ≤ m ∧ i = .int .i64 q ∧ ∃ n, w.drewN n = wr) (fun i _ => xs.length - (intOf i).toNat)
  case atStart => exact ⟨0, Nat.zero_le _, rfl, 0, rfl⟩
  case round =>
    obtain ⟨q, hq, rfl, n, rfl⟩ := hrel
    by_cases hlt : q < xs.length
    · obtain ⟨⟨s, f, t, l, c, r, k⟩, hx⟩ : ∃ x, xs.getD q aNone = x := ⟨_, rfl⟩
      obtain ⟨b, o, rfl, hab, c0, c1, c2, c3, c4, c5, c6⟩ := J0.out.cells7 hlt hx
      have hs : s.size ≤ maxLen := by have := HL.out q; rw [hx] at this; exact this
      have i0 : (0 : Int) ≤ (q : Int) := by omega
      have i1 : (q : Int) < xs.length := by omega
      have HV := Lib.hid (fun n => l03Ok_any b (o + q * 7) s f t l c r k (w.drewN n) hs (by simpa using c0) (by simpa using c1) (by simpa using c2) (by simpa using c3) (by simpa using c4) (by simpa using c5) (by simpa using c6))
      have HJ := Lib.hid (fun x n => l04Junction_any bm om J x (w.drewN n) j1 j2 (by simpa using m0))
      by_cases hqm : q < m
      · have hp := M2.out q hqm
        unfold mineP at hp
        simp only [Bool.and_eq_true] at hp
        obtain ⟨p1, p2, p3⟩ := hp
        rw [hx] at p1 p2
        have p1 : airwayB s f t l c r k = true := p1
        have p2 : (inB f 0 (J - 1) && inB t 0 (J - 1)) = true := p2
        rw [Bool.and_eq_true] at p2
        have HV := Lib.hid (fun n => eqbd (HV.out n) p1)
        have HF := Lib.hid (fun n => eqb (HJ.out f n) p2.1)
        have HT := Lib.hid (fun n => eqb (HJ.out t n) p2.2)
        by_cases hq0 : q = 0
        · have hz0 : decide (0 < q) = false := decide_eq_false (by omega)
          clear p1 p2 p3 hx hq0
          go_wp2
          go_big_quiet ((first | (go_at_call 134; first | (with_reducible exact quiet_d (HV.out _)) | (with_reducible exact quiet_d2 (HV.out _))) | (go_at_call 135; first | (with_reducible exact quiet_s (HF.out _)) | (with_reducible exact quiet_s2 (HF.out _))) | (go_at_call 135; first | (with_reducible exact quiet_s (HT.out _)) | (with_reducible exact quiet_s2 (HT.out _)))))
          go_wp2
          go_roundw
          case rel => exact ⟨q + 1, by omega, by go_num, _, rfl⟩
          case measure => simp [intOf]; omega
        · obtain ⟨p, hpq⟩ : ∃ p, q = p + 1 := ⟨q - 1, by omega⟩
          have hz0 : decide (0 < q) = true := decide_eq_true (by omega)
          obtain ⟨⟨s', f', t', l', c', r', k'⟩, hx'⟩ : ∃ x, xs.getD p aNone = x := ⟨_, rfl⟩
          obtain ⟨b', o', hbo, _, d0, -⟩ := J0.out.cells7 (j := p) (by omega) hx'
          cases hbo
          rw [hpq, ordB_succ, ← hpq, hx, hx'] at p3
          have p3 : Op.bytesLess s'.toList s.toList = true := p3
          have w0 : (0 : Int) ≤ (p : Int) := by omega
          have w1 : (p : Int) < xs.length := by omega
          have hw : IntKind.i64.wrap ((q : Int) - 1) = (p : Int) := by rw [IntWalk.i64_in _ (by omega)]; omega
          clear p1 p2 hx hx' hpq hq0
          go_wp2
          go_big_quiet (first | (go_at_call 134; first | (with_reducible exact quiet_d (HV.out _)) | (with_reducible exact quiet_d2 (HV.out _))) | (go_at_call 135; first | (with_reducible exact quiet_s (HF.out _)) | (with_reducible exact quiet_s2 (HF.out _))) | (go_at_call 135; first | (with_reducible exact quiet_s (HT.out _)) | (with_reducible exact quiet_s2 (HT.out _))))
          clear hw
          go_wp2
          go_roundw
          case rel => exact ⟨q + 1, by omega, by go_num, _, rfl⟩
          case measure => simp [intOf]; omega
      · obtain rfl : m = q := by omega
        have HD := Lib.hid (decide_eq_false (show ¬ m = xs.length by omega))
        have hp := M3.out hlt
        unfold mineP at hp
        rw [hx] at hp
        have hp : (airwayB s f t l c r k && ((inB f 0 (J - 1) && inB t 0 (J - 1)) && ordB xs m)) = false := hp
        cases p1 : airwayB s f t l c r k
        · have HV := Lib.hid (fun n => eqbd (HV.out n) p1)
          clear p1 hp hx
          go_wp2
          go_big_quiet ((go_at_call 134; first | (with_reducible exact quiet_d (HV.out _)) | (with_reducible exact quiet_d2 (HV.out _))))
          go_wp2
          go_ret
          exact ⟨ret_bool (by rw [HR.out, HM.out, HD.out, Bool.and_false]), _, (World.drewN_drewN _ _ _).symm⟩
        · have HV := Lib.hid (fun n => eqbd (HV.out n) p1)
          rw [p1, Bool.true_and] at hp
          cases p2 : inB f 0 (J - 1)
          · have HF := Lib.hid (fun n => eqb (HJ.out f n) p2)
            clear p1 p2 hp hx
            go_wp2
            go_big_quiet (first | (go_at_call 134; first | (with_reducible exact quiet_d (HV.out _)) | (with_reducible exact quiet_d2 (HV.out _))) | (go_at_call 135; first | (with_reducible exact quiet_s (HF.out _)) | (with_reducible exact quiet_s2 (HF.out _))))
            go_wp2
            go_ret
            exact ⟨ret_bool (by rw [HR.out, HM.out, HD.out, Bool.and_false]), _, (World.drewN_drewN _ _ _).symm⟩
          · have HF := Lib.hid (fun n => eqb (HJ.out f n) p2)
            rw [p2, Bool.true_and] at hp
            cases p4 : inB t 0 (J - 1)
            · have HT := Lib.hid (fun n => eqb (HJ.out t n) p4)
              clear p1 p2 p4 hp hx
              go_wp2
              go_big_quiet (first | (go_at_call 134; first | (with_reducible exact quiet_d (HV.out _)) | (with_reducible exact quiet_d2 (HV.out _))) | (go_at_call 135; first | (with_reducible exact quiet_s (HF.out _)) | (with_reducible exact quiet_s2 (HF.out _))) | (go_at_call 135; first | (with_reducible exact quiet_s (HT.out _)) | (with_reducible exact quiet_s2 (HT.out _))))
              go_wp2
              go_ret
              exact ⟨ret_bool (by rw [HR.out, HM.out, HD.out, Bool.and_false]), _, (World.drewN_drewN _ _ _).symm⟩
            · have HT := Lib.hid (fun n => eqb (HJ.out t n) p4)
              rw [p4, Bool.true_and] at hp
              have hq0 : m ≠ 0 := fun e => by rw [e] at hp; simp [ordB] at hp
              obtain ⟨p, hpq⟩ : ∃ p, m = p + 1 := ⟨m - 1, by omega⟩
              have hz0 : decide (0 < m) = true := decide_eq_true (by omega)
              obtain ⟨⟨s', f', t', l', c', r', k'⟩, hx'⟩ : ∃ x, xs.getD p aNone = x := ⟨_, rfl⟩
              obtain ⟨b', o', hbo, _, d0, -⟩ := J0.out.cells7 (j := p) (by omega) hx'
              cases hbo
              rw [hpq, ordB_succ, ← hpq, hx, hx'] at hp
              have p3 : Op.bytesLess s'.toList s.toList = false := hp
              have w0 : (0 : Int) ≤ (p : Int) := by omega
              have w1 : (p : Int) < xs.length := by omega
              have hw : IntKind.i64.wrap ((m : Int) - 1) = (p : Int) := by rw [IntWalk.i64_in _ (by omega)]; omega
              clear p1 p2 p4 hp hx hx' hpq hq0
              go_wp2
              go_big_quiet (first | (go_at_call 134; first | (with_reducible exact quiet_d (HV.out _)) | (with_reducible exact quiet_d2 (HV.out _))) | (go_at_call 135; first | (with_reducible exact quiet_s (HF.out _)) | (with_reducible exact quiet_s2 (HF.out _))) | (go_at_call 135; first | (with_reducible exact quiet_s (HT.out _)) | (with_reducible exact quiet_s2 (HT.out _))))
              clear hw
              go_wp2
              go_ret
              exact ⟨ret_bool (by rw [HR.out, HM.out, HD.out, Bool.and_false]), _, (World.drewN_drewN _ _ _).symm⟩
    · have HD := Lib.hid (decide_eq_true (show m = xs.length by omega))
      by_cases h24 : (xs.length : Int) ≤ 24
      · have H4 := Lib.hid (decide_eq_true h24)
        go_wp2
        go_ret
        exact ⟨ret_bool (by rw [HR.out, HM.out, HD.out, H4.out]; rfl), _, rfl⟩
      · have H4 := Lib.hid (decide_eq_false h24)
        go_wp2
        go_ret
        exact ⟨ret_bool (by rw [HR.out, HM.out, HD.out, H4.out]; rfl), _, rfl⟩
end Go.Proofs.YtejkoicgbgoiaaaGreat
