/- A number read back from its decimal form, by the program. Conditions: the table of powers and two errors of the library's lie in memory; the lengths that each theorem names. -/
import Derived.Test.YtemidjejelmdlaaDoorRdN
import Derived.Stop.LaidErr
import Derived.Lib.ParseIntBTie
namespace Go.Proofs.YtemidjejelmdlaaDoor
open Go.RowKit Go.PlainAid
open Pl
/-- The library's two errors lie in memory, and stay. -/
def Errs (w : World) : Prop := ∀ W, Below w.heap.size w W → (∃ tp p, W.var? Tryd.prog "strconv.ErrSyntax" = some #[.iface tp p]) ∧ (∃ tp p, W.var? Tryd.prog "strconv.ErrRange" = some #[.iface tp p])
theorem Errs.later {w w' : World} (h : Errs w) (hb : Below w.heap.size w w') : Errs w' := fun W hW => h W (hb.trans (hW.mono hb.size))
theorem Errs.here {w : World} (h : Errs w) : (∃ tp p, w.var? Tryd.prog "strconv.ErrSyntax" = some #[.iface tp p]) ∧ (∃ tp p, w.var? Tryd.prog "strconv.ErrRange" = some #[.iface tp p]) := h w (Below.refl _ _)
theorem var_below {P : Program} {w w' : World} {n : String} {cs : Array Value} (h : w.var? P n = some cs) (hb : Below w.heap.size w w') : w'.var? P n = some cs := by
  unfold World.var? at *
  cases hg : P.globalNamed n with
  | none => simp [hg] at h
  | some g =>
    simp only [hg, Option.bind_some] at h ⊢
    have hlt : g < w.heap.size := by
      rcases Nat.lt_or_ge g w.heap.size with h' | h'
      · exact h'
      · rw [Array.getElem?_eq_none h'] at h; simp at h
    rw [hb.block g hlt]
    exact h
theorem toList_ne {a b : ByteArray} (h : ¬ a = b) : (a.toList == b.toList) = false := by
  rw [beq_eq_false_iff_ne]
  intro e
  rw [ByteArray.toList_eq, ByteArray.toList_eq] at e
  exact h (by rw [← mk_list a, ← mk_list b, e])
set_option maxRecDepth 100000 in
set_option maxHeartbeats 1600000 in
theorem ReadDecimal_any (s : ByteArray) (w : World) (hs : s.size ≤ 1099511627776) (hTab : Tab w) (hErr : Errs w) :
    Calls Tryd.prog 68 #[.string s] w fun e w' => e = .returned (.tuple #[.int .i64 (numN s.data.toList), .bool (numB s.data.toList)]) ∧ Below w.heap.size w w' := by
  obtain ⟨R, hR⟩ : ∃ R, R = numN s.data.toList := ⟨_, rfl⟩
  obtain ⟨V, hV⟩ : ∃ V, V = numB s.data.toList := ⟨_, rfl⟩
  rw [← hR, ← hV]
  have HNO : Hid (numB s.data.toList = false → R = 0 ∧ V = false) := Lib.hid (fun h => ⟨by rw [hR]; exact numN_no h, by rw [hV]; exact h⟩)
  have HYES : Hid (numB s.data.toList = true → R = numV s.data.toList ∧ V = true) := Lib.hid (fun h => ⟨by rw [hR]; exact numN_yes h, by rw [hV]; exact h⟩)
  clear hR hV
  have HTab := Lib.hid hTab
  obtain ⟨⟨tp1, p1, e1⟩, ⟨tp2, p2, e2⟩⟩ := hErr.here
  clear hTab hErr
  cases hp : Lib.parseIntB 64 s.data.toList with
  | «syntax» =>
    obtain ⟨rfl, rfl⟩ := HNO.out (by
      cases hn : numB s.data.toList
      · rfl
      · have := (numB_itoa hn).2.1; rw [hp] at this; cases this)
    have HX := Lib.hid (Tryd.strconv_ParseInt_10_at64_syntax_var s (by omega) hp tp1 p1 w e1)
    clear e1 e2 hp
    go_enter Tryd.func68, Tryd.ntmps68
    go_wp2_with fail
    refine HX.out.mono ?_
    rintro e w1 ⟨N, rfl, -, -, hb⟩
    go_wp2_with fail
    go_ret2
    exact ⟨rfl, hb⟩
  | range =>
    obtain ⟨rfl, rfl⟩ := HNO.out (by
      cases hn : numB s.data.toList
      · rfl
      · have := (numB_itoa hn).2.1; rw [hp] at this; cases this)
    have HX := Lib.hid (Tryd.strconv_ParseInt_10_at64_range_var s (by omega) hp tp2 p2 w e2)
    clear e1 e2 hp
    go_enter Tryd.func68, Tryd.ntmps68
    go_wp2_with fail
    refine HX.out.mono ?_
    rintro e w1 ⟨N, rfl, -, -, hb⟩
    go_wp2_with fail
    go_ret2
    exact ⟨rfl, hb⟩
  | ok v =>
    have HX : Hid (Calls Tryd.prog 74 #[.string s, .int .i64 10, .int .i64 64] w fun e w' => e = .returned (.tuple #[.int .i64 v, .nilIface]) ∧ Below w.heap.size w w') := Lib.hid ((Tryd.strconv_ParseInt_10_at64_ok s (by omega) v hp w).mono (by
      rintro e w' ⟨rfl, rfl | ⟨t, rfl⟩⟩
      · exact ⟨rfl, Below.refl _ _⟩
      · exact ⟨rfl, Lib.bytesWorld_below _ _ _⟩))
    have hvb := Lib.atoiAll_bounds ((Lib.parseIntB_64 _).symm.trans hp)
    have HPV := Lib.hid hp
    obtain ⟨T, hT⟩ : ∃ T : ByteArray, T = ⟨(Lib.trimPrefix s.data.toList [45]).toArray⟩ := ⟨_, rfl⟩
    have HTS : Hid (T.size = (Lib.trimPrefix s.data.toList [45]).length) := Lib.hid (by rw [hT, mk_size])
    have HTP : Hid (∀ W, Calls Tryd.prog 75 #[.string s, .string ⟨#[45]⟩] W fun e w' => e = .returned (.string T) ∧ W = w') := Lib.hid (fun W => (Tryd.strings_TrimPrefix s ⟨#[45]⟩ W).mono (by rintro e w' ⟨rfl, rfl⟩; exact ⟨by rw [hT], rfl⟩))
    clear e1 e2 hp hT
    by_cases h18 : (T.size : Int) ≤ 18
    rotate_left
    · obtain ⟨rfl, rfl⟩ := HNO.out (by
        cases hn : numB s.data.toList
        · rfl
        · have := (numB_itoa hn).2.2; have := HTS.out; omega)
      go_enter Tryd.func68, Tryd.ntmps68
      go_wp2_with fail
      refine HX.out.mono ?_
      rintro e w1 ⟨rfl, hb⟩
      go_wp2_with (go_at_call 75; refine (HTP.out _).mono ?_; rintro e w' ⟨rfl, rfl⟩)
      go_ret2
      exact ⟨rfl, hb⟩
    obtain ⟨D, hD⟩ : ∃ D : ByteArray, D = ⟨(Lib.itoa v).toArray⟩ := ⟨_, rfl⟩
    have HDec : Hid (∀ W, Below w.heap.size w W → Calls Tryd.prog 51 #[.int .i64 v] W fun e w' => e = .returned (.string D) ∧ Below W.heap.size W w') := Lib.hid (fun W hb => by rw [hD]; exact Decimal_any v W hvb.1 hvb.2 (HTab.out.later hb))
    by_cases hds : D = s
    · have hit : Lib.itoa v = s.data.toList := by rw [← hds, hD]
      obtain ⟨n1, n2⟩ := itoa_numB hit (by have := HTS.out; omega)
      obtain ⟨r1, rfl⟩ := HYES.out n1
      have HRR := Lib.hid (r1.trans n2)
      have hdd : (D.toList == s.toList) = true := by rw [beq_iff_eq, hds]
      clear hit n1 n2 r1 hD HTS hds
      go_enter Tryd.func68, Tryd.ntmps68
      go_wp2_with fail
      refine HX.out.mono ?_
      rintro e w1 ⟨rfl, hb⟩
      go_wp2_with (go_at_call 75; refine (HTP.out _).mono ?_; rintro e w' ⟨rfl, rfl⟩)
      refine (HDec.out _ hb).mono ?_
      rintro e w2 ⟨rfl, hb2⟩
      go_wp2_with fail
      go_ret2
      exact ⟨by rw [HRR.out]; rfl, hb.trans (hb2.mono hb.size)⟩
    · obtain ⟨rfl, rfl⟩ := HNO.out (by
        cases hn : numB s.data.toList
        · rfl
        · obtain ⟨a, b, _⟩ := numB_itoa hn
          exfalso
          rw [HPV.out] at b
          injection b with b
          rw [← b] at a
          exact hds (by rw [hD, a]))
      have hdd : (D.toList == s.toList) = false := toList_ne hds
      clear hD HTS
      go_enter Tryd.func68, Tryd.ntmps68
      go_wp2_with fail
      refine HX.out.mono ?_
      rintro e w1 ⟨rfl, hb⟩
      go_wp2_with (go_at_call 75; refine (HTP.out _).mono ?_; rintro e w' ⟨rfl, rfl⟩)
      refine (HDec.out _ hb).mono ?_
      rintro e w2 ⟨rfl, hb2⟩
      go_wp2_with fail
      go_ret2
      exact ⟨rfl, hb.trans (hb2.mono hb.size)⟩
end Go.Proofs.YtemidjejelmdlaaDoor
