/- What a name is: at most ten bytes, small letters and digits, a letter first; the program's test and the reference's. Conditions: the length that a string can have. -/
import Derived.Test.YtlgagnbnjfneaaaBase
import Derived.PlainAid
import Derived.Lib.Hide
namespace Go.Proofs.Ytlgagnbnjfneaaa
open Go.RowKit Go.PlainAid
open Pl
/-- A byte that is a small letter; a byte of a name. -/
def sm (n : Int) : Prop := 97 ≤ n ∧ n ≤ 122
def nb (n : Int) : Prop := (97 ≤ n ∧ n ≤ 122) ∨ (48 ≤ n ∧ n ≤ 57)
/-- A name. -/
def IsNm (s : ByteArray) : Prop := 1 ≤ s.size ∧ s.size ≤ 10 ∧ sm (bt s 0) ∧ ∀ k, k < s.size → nb (bt s k)
noncomputable def nameB (s : ByteArray) : Bool := @decide (IsNm s) (Classical.propDecidable _)
theorem nameB_yes {s : ByteArray} (h : IsNm s) : nameB s = true := @decide_eq_true _ (Classical.propDecidable _) h
theorem nameB_no {s : ByteArray} (h : ¬ IsNm s) : nameB s = false := @decide_eq_false _ (Classical.propDecidable _) h
theorem nameB_iff {s : ByteArray} : nameB s = true ↔ IsNm s := @decide_eq_true_iff _ (Classical.propDecidable _)

theorem str_ne {s : ByteArray} (h : 1 ≤ s.size) : s.toList ≠ [] := by
  intro e
  rw [ByteArray.toList_eq] at e
  have : s.data.size = s.size := rfl
  have h2 : s.data.toList.length = 0 := by rw [e]; rfl
  rw [Array.length_toList] at h2
  omega

/-- The first byte that is none of a name's. -/
theorem first_bad (s : ByteArray) : ∀ n, (∀ k, k < n → nb (bt s k)) ∨ ∃ k, k < n ∧ ¬ nb (bt s k) ∧ ∀ j, j < k → nb (bt s j) := by
  intro n
  induction n with
  | zero => exact .inl (fun k hk => by omega)
  | succ n ih =>
    rcases ih with h | ⟨k, hk, hb, hj⟩
    · by_cases hn : nb (bt s n)
      · left
        intro k hk
        by_cases e : k = n
        · subst e; exact hn
        · exact h k (by omega)
      · exact .inr ⟨n, by omega, hn, h⟩
    · exact .inr ⟨k, by omega, hb, hj⟩

theorem onlyName_yes (s : ByteArray) (w : World) (hs : s.size ≤ 10) (h : ∀ k, k < s.size → nb (bt s k)) :
    Calls Try.prog 164 #[.string s] w fun e w' => e = .returned (.bool true) ∧ w = w' := by
  have H := Lib.hid h
  clear h
  have hb := get_bt s
  go_enter Try.func164, Try.ntmps164
  go_wp2
  go_loop [7] (fun i => ∃ k : Nat, k ≤ s.size ∧ i = .int .i64 k) (fun i => s.size - (intOf i).toNat)
  case atStart => exact ⟨0, Nat.zero_le _, rfl⟩
  case round =>
    obtain ⟨k, hk, rfl⟩ := hrel
    by_cases hlt : k < s.size
    · have hx := H.out k hlt
      unfold nb at hx
      rcases hx with ⟨x1, x2⟩ | ⟨x1, x2⟩
      · go_wp2
        all_goals
          go_round
          case rel => exact ⟨k + 1, by omega, by go_num⟩
          case measure => simp [intOf]; omega
      · go_wp2
        all_goals
          go_round
          case rel => exact ⟨k + 1, by omega, by go_num⟩
          case measure => simp [intOf]; omega
    · go_wp2
      go_ret
      exact ⟨rfl, rfl⟩
theorem onlyName_no (s : ByteArray) (w : World) (hs : s.size ≤ 10) (b : Nat) (hbs : b < s.size) (hbad : ¬ nb (bt s b)) (h : ∀ k, k < b → nb (bt s k)) :
    Calls Try.prog 164 #[.string s] w fun e w' => e = .returned (.bool false) ∧ w = w' := by
  have H := Lib.hid h
  clear h
  have HB := Lib.hid hbad
  clear hbad
  have hb := get_bt s
  go_enter Try.func164, Try.ntmps164
  go_wp2
  go_loop [7] (fun i => ∃ k : Nat, k ≤ b ∧ i = .int .i64 k) (fun i => s.size - (intOf i).toNat)
  case atStart => exact ⟨0, Nat.zero_le _, rfl⟩
  case round =>
    obtain ⟨k, hk, rfl⟩ := hrel
    by_cases hlt : k < b
    · have hx := H.out k hlt
      unfold nb at hx
      rcases hx with ⟨x1, x2⟩ | ⟨x1, x2⟩
      · go_wp2
        all_goals
          go_round
          case rel => exact ⟨k + 1, by omega, by go_num⟩
          case measure => simp [intOf]; omega
      · go_wp2
        all_goals
          go_round
          case rel => exact ⟨k + 1, by omega, by go_num⟩
          case measure => simp [intOf]; omega
    · obtain rfl : k = b := by omega
      have hx := HB.out
      unfold nb at hx
      have y1 : bt s k < 97 ∨ 122 < bt s k := by omega
      have y2 : bt s k < 48 ∨ 57 < bt s k := by omega
      clear hx
      rcases y1 with y1 | y1 <;> rcases y2 with y2 | y2
      all_goals
        first
        | (exfalso; omega)
        | (go_wp2
           go_ret
           exact ⟨rfl, rfl⟩)
theorem IsName_any (s : ByteArray) (w : World) (hs : s.size ≤ maxLen) :
    Calls Try.prog 142 #[.string s] w fun e w' => e = .returned (.bool (nameB s)) ∧ w = w' := by
  unfold maxLen at hs
  have hb := get_bt s
  by_cases h1 : 1 ≤ s.size
  · by_cases h2 : s.size ≤ 10
    · by_cases h3 : 97 ≤ bt s 0
      · by_cases h4 : bt s 0 ≤ 122
        · rcases first_bad s s.size with h | ⟨k, hk, hbad, hj⟩
          · rw [nameB_yes ⟨h1, h2, ⟨h3, h4⟩, h⟩]
            have H := Lib.hid h
            clear h
            go_enter Try.func142, Try.ntmps142
            go_wp2_with (go_at_call 164; refine (onlyName_yes _ _ h2 H.out).mono ?_; rintro e w' ⟨rfl, rfl⟩)
            go_ret
            exact ⟨rfl, rfl⟩
          · rw [nameB_no (fun ⟨_, _, _, h⟩ => hbad (h k hk))]
            have H := Lib.hid hj
            have HB := Lib.hid hbad
            clear hj hbad
            go_enter Try.func142, Try.ntmps142
            go_wp2_with (go_at_call 164; refine (onlyName_no _ _ h2 k hk HB.out H.out).mono ?_; rintro e w' ⟨rfl, rfl⟩)
            go_ret
            exact ⟨rfl, rfl⟩
        · rw [nameB_no (fun ⟨_, _, h, _⟩ => h4 h.2)]
          go_enter Try.func142, Try.ntmps142
          go_wp2
          go_ret
          exact ⟨rfl, rfl⟩
      · rw [nameB_no (fun ⟨_, _, h, _⟩ => h3 h.1)]
        go_enter Try.func142, Try.ntmps142
        go_wp2
        go_ret
        exact ⟨rfl, rfl⟩
    · rw [nameB_no (fun ⟨_, h, _⟩ => h2 h)]
      go_enter Try.func142, Try.ntmps142
      go_wp2
      go_ret
      exact ⟨rfl, rfl⟩
  · rw [nameB_no (fun ⟨h, _⟩ => h1 h)]
    go_enter Try.func142, Try.ntmps142
    go_wp2
    go_ret
    exact ⟨rfl, rfl⟩

/-! ### The reference's -/
theorem l01Small_any (n : Int) (w : World) : Calls Try.prog 162 #[.int .u8 n] w fun e w' => e = .returned (.bool (inB n 97 122)) ∧ w = w' := by
  by_cases h1 : 97 ≤ n
  · by_cases h2 : n ≤ 122
    · rw [inB_mk ⟨h1, h2⟩]
      go_enter Try.func162, Try.ntmps162
      go_wp2
      go_ret
      exact ⟨rfl, rfl⟩
    · rw [inB_no.2 (by omega)]
      go_enter Try.func162, Try.ntmps162
      go_wp2
      go_ret
      exact ⟨rfl, rfl⟩
  · rw [inB_no.2 (by omega)]
    go_enter Try.func162, Try.ntmps162
    go_wp2
    go_ret
    exact ⟨rfl, rfl⟩
theorem l01Digit_any (n : Int) (w : World) : Calls Try.prog 163 #[.int .u8 n] w fun e w' => e = .returned (.bool (inB n 48 57)) ∧ w = w' := by
  by_cases h1 : 48 ≤ n
  · by_cases h2 : n ≤ 57
    · rw [inB_mk ⟨h1, h2⟩]
      go_enter Try.func163, Try.ntmps163
      go_wp2
      go_ret
      exact ⟨rfl, rfl⟩
    · rw [inB_no.2 (by omega)]
      go_enter Try.func163, Try.ntmps163
      go_wp2
      go_ret
      exact ⟨rfl, rfl⟩
  · rw [inB_no.2 (by omega)]
    go_enter Try.func163, Try.ntmps163
    go_wp2
    go_ret
    exact ⟨rfl, rfl⟩
theorem l01Name_yes (s : ByteArray) (w : World) (h1 : 1 ≤ s.size) (h2 : s.size ≤ 10) (h3 : inB (bt s 0) 97 122 = true) (h : ∀ k, k < s.size → nb (bt s k)) :
    Calls Try.prog 140 #[.string s] w fun e w' => e = .returned (.bool true) ∧ w = w' := by
  have H := Lib.hid h
  clear h
  have hb := get_bt s
  have hne : s.toList ≠ [] := str_ne h1
  have hne2 : s.toList.isEmpty = false := by simp [hne]
  go_enter Try.func140, Try.ntmps140
  go_wp2_with (go_at_call 162; refine (l01Small_any _ _).mono ?_; rintro e w' ⟨rfl, rfl⟩)
  go_loop [3] (fun i => ∃ k : Nat, k ≤ s.size ∧ i = .int .i64 k) (fun i => s.size - (intOf i).toNat)
  case atStart => exact ⟨0, Nat.zero_le _, rfl⟩
  case round =>
    obtain ⟨k, hk, rfl⟩ := hrel
    by_cases hlt : k < s.size
    · have hx := H.out k hlt
      unfold nb at hx
      by_cases hsm : inB (bt s k) 97 122 = true
      · go_wp2_with (first | (go_at_call 162; refine (l01Small_any _ _).mono ?_; rintro e w' ⟨rfl, rfl⟩) | (go_at_call 163; refine (l01Digit_any _ _).mono ?_; rintro e w' ⟨rfl, rfl⟩))
        go_round
        case rel => exact ⟨k + 1, by omega, by go_num⟩
        case measure => simp [intOf]; omega
      · have hsm' : inB (bt s k) 97 122 = false := by simpa using hsm
        have hdg : inB (bt s k) 48 57 = true := inB_mk (hx.resolve_left (fun h => hsm (inB_mk h)))
        clear hsm hx
        go_wp2_with (first | (go_at_call 162; refine (l01Small_any _ _).mono ?_; rintro e w' ⟨rfl, rfl⟩) | (go_at_call 163; refine (l01Digit_any _ _).mono ?_; rintro e w' ⟨rfl, rfl⟩))
        go_round
        case rel => exact ⟨k + 1, by omega, by go_num⟩
        case measure => simp [intOf]; omega
    · go_wp2
      go_ret
      exact ⟨rfl, rfl⟩
theorem l01Name_no (s : ByteArray) (w : World) (h1 : 1 ≤ s.size) (h2 : s.size ≤ 10) (h3 : inB (bt s 0) 97 122 = true) (b : Nat) (hbs : b < s.size) (hbad : ¬ nb (bt s b)) (h : ∀ k, k < b → nb (bt s k)) :
    Calls Try.prog 140 #[.string s] w fun e w' => e = .returned (.bool false) ∧ w = w' := by
  have H := Lib.hid h
  clear h
  have HB := Lib.hid hbad
  clear hbad
  have hb := get_bt s
  have hne : s.toList ≠ [] := str_ne h1
  have hne2 : s.toList.isEmpty = false := by simp [hne]
  go_enter Try.func140, Try.ntmps140
  go_wp2_with (go_at_call 162; refine (l01Small_any _ _).mono ?_; rintro e w' ⟨rfl, rfl⟩)
  go_loop [3] (fun i => ∃ k : Nat, k ≤ b ∧ i = .int .i64 k) (fun i => s.size - (intOf i).toNat)
  case atStart => exact ⟨0, Nat.zero_le _, rfl⟩
  case round =>
    obtain ⟨k, hk, rfl⟩ := hrel
    by_cases hlt : k < b
    · have hx := H.out k hlt
      unfold nb at hx
      by_cases hsm : inB (bt s k) 97 122 = true
      · go_wp2_with (first | (go_at_call 162; refine (l01Small_any _ _).mono ?_; rintro e w' ⟨rfl, rfl⟩) | (go_at_call 163; refine (l01Digit_any _ _).mono ?_; rintro e w' ⟨rfl, rfl⟩))
        go_round
        case rel => exact ⟨k + 1, by omega, by go_num⟩
        case measure => simp [intOf]; omega
      · have hsm' : inB (bt s k) 97 122 = false := by simpa using hsm
        have hdg : inB (bt s k) 48 57 = true := inB_mk (hx.resolve_left (fun h => hsm (inB_mk h)))
        clear hsm hx
        go_wp2_with (first | (go_at_call 162; refine (l01Small_any _ _).mono ?_; rintro e w' ⟨rfl, rfl⟩) | (go_at_call 163; refine (l01Digit_any _ _).mono ?_; rintro e w' ⟨rfl, rfl⟩))
        go_round
        case rel => exact ⟨k + 1, by omega, by go_num⟩
        case measure => simp [intOf]; omega
    · obtain rfl : k = b := by omega
      have hx := HB.out
      unfold nb at hx
      have hsm : inB (bt s k) 97 122 = false := inB_no.2 (by omega)
      have hdg : inB (bt s k) 48 57 = false := inB_no.2 (by omega)
      clear hx
      go_wp2_with (first | (go_at_call 162; refine (l01Small_any _ _).mono ?_; rintro e w' ⟨rfl, rfl⟩) | (go_at_call 163; refine (l01Digit_any _ _).mono ?_; rintro e w' ⟨rfl, rfl⟩))
      go_ret
      exact ⟨rfl, rfl⟩
theorem l01Name_any (s : ByteArray) (w : World) (hs : s.size ≤ maxLen) :
    Calls Try.prog 140 #[.string s] w fun e w' => e = .returned (.bool (nameB s)) ∧ w = w' := by
  unfold maxLen at hs
  have hb := get_bt s
  by_cases h1 : 1 ≤ s.size
  · by_cases h2 : s.size ≤ 10
    · by_cases h3 : inB (bt s 0) 97 122 = true
      · rcases first_bad s s.size with h | ⟨k, hk, hbad, hj⟩
        · rw [nameB_yes ⟨h1, h2, inB_iff.1 h3, h⟩]
          exact l01Name_yes s w h1 h2 h3 h
        · rw [nameB_no (fun ⟨_, _, _, h⟩ => hbad (h k hk))]
          exact l01Name_no s w h1 h2 h3 k hk hbad hj
      · have h3' : inB (bt s 0) 97 122 = false := by simpa using h3
        rw [nameB_no (fun ⟨_, _, h, _⟩ => h3 (inB_mk h))]
        clear h3
        have hne : s.toList ≠ [] := str_ne h1
        have hne2 : s.toList.isEmpty = false := by simp [hne]
        go_enter Try.func140, Try.ntmps140
        go_wp2_with (go_at_call 162; refine (l01Small_any _ _).mono ?_; rintro e w' ⟨rfl, rfl⟩)
        go_ret
        exact ⟨rfl, rfl⟩
    · rw [nameB_no (fun ⟨_, h, _⟩ => h2 h)]
      have hne : s.toList ≠ [] := str_ne h1
      have hne2 : s.toList.isEmpty = false := by simp [hne]
      go_enter Try.func140, Try.ntmps140
      go_wp2
      go_ret
      exact ⟨rfl, rfl⟩
  · rw [nameB_no (fun ⟨h, _⟩ => h1 h)]
    have hse : s = ByteArray.empty := by
      apply ByteArray.ext
      apply Array.eq_empty_of_size_eq_zero
      have : s.data.size = s.size := rfl
      omega
    subst hse
    go_enter Try.func140, Try.ntmps140
    go_wp2
    go_ret
    exact ⟨rfl, rfl⟩
end Go.Proofs.Ytlgagnbnjfneaaa
