/- A name and a list read back from their text: plainly; and by the program. Conditions: the library's variables lie in memory; the lengths that each theorem names. -/
import Derived.Test.YtemidjejelmdlaaDoorRdK
import Derived.Lib.IndexMore
import Derived.Deep.RegionHeld3
namespace Go.Proofs.YtemidjejelmdlaaDoor
open Go.RowKit Go.PlainAid
open Pl
/-- What follows the first space. -/
def rst (l : List UInt8) : List UInt8 := (Lib.cut l [32]).2.1
theorem cut_spl (l : List UInt8) : (Lib.cut l [32]).1 = spH 32 l := by
  unfold Lib.cut
  rcases index_one (c := 32) l with ⟨h1, _, h3⟩ | ⟨i, h1, h2, _⟩
  · rw [h1, if_neg (by decide), h3]
  · rw [h1, if_pos (by omega), h2]; rfl
theorem rst_cases (l : List UInt8) : (spT 32 l = [] ∧ rst l = []) ∨ (spT 32 l = spl 32 (rst l) ∧ l = spH 32 l ++ 32 :: rst l) := by
  unfold rst Lib.cut
  rcases index_one (c := 32) l with ⟨h1, h2, _⟩ | ⟨i, h1, h2, h3⟩
  · rw [h1, if_neg (by decide)]
    exact .inl ⟨h2, rfl⟩
  · rw [h1, if_pos (by omega)]
    have e : ((i : Int).toNat + ([32] : List UInt8).length) = i + 1 := by simp
    rw [e]
    refine .inr ⟨h3, ?_⟩
    have hj := spl_join 32 l
    rw [h3] at hj
    conv => lhs; rw [← hj]
    show spH 32 l ++ (([32] ++ spH 32 (l.drop (i + 1))) ++ Lib.joinTail [32] (spT 32 (l.drop (i + 1)))) = _
    rw [List.append_assoc, spl_join]
    rfl
theorem num_no32 {p : List UInt8} (h : numB p = true) : (32 : UInt8) ∉ p := by
  obtain ⟨_, _, _, hd⟩ := numB_parts h
  intro hm
  unfold dgs at hd
  have no : ¬ isD (32 : UInt8) = true := by decide
  cases hn : neg p
  · rw [hn] at hd
    exact no (hd 32 hm)
  · rw [hn] at hd
    unfold neg at hn
    match p, hn, hm, hd with
    | b :: r, hn, hm, hd =>
      have hb : b = 45 := by simpa using hn
      rcases List.mem_cons.1 hm with e | e
      · rw [hb] at e; exact absurd e (by decide)
      · exact no (hd 32 e)
theorem mem_joinTail {x c : UInt8} : ∀ {ps : List (List UInt8)}, x ∈ Lib.joinTail [c] ps → x = c ∨ ∃ p ∈ ps, x ∈ p
  | [], h => by cases h
  | p :: ps, h => by
    have h : x ∈ ([c] ++ p) ++ Lib.joinTail [c] ps := h
    rcases List.mem_append.1 h with h | h
    · rcases List.mem_append.1 h with h | h
      · exact .inl (List.mem_singleton.1 h)
      · exact .inr ⟨p, by simp, h⟩
    · rcases mem_joinTail h with h | ⟨q, hq, h⟩
      · exact .inl h
      · exact .inr ⟨q, List.mem_cons_of_mem _ hq, h⟩
theorem read_no32 {l : List UInt8} (h : readB l = true) : (32 : UInt8) ∉ l := by
  unfold readB at h
  rw [Bool.or_eq_true] at h
  rcases h with h | h
  · rw [beq_iff_eq] at h; rw [h]; decide
  · rw [Bool.and_eq_true] at h
    have hp : ∀ p ∈ spl 44 l, (32 : UInt8) ∉ p := fun p hp => by
      have := List.all_eq_true.1 h.2 p hp
      unfold partOk at this
      rw [Bool.and_eq_true] at this
      exact num_no32 this.1
    intro hm
    rw [← spl_join 44 l] at hm
    rcases List.mem_append.1 hm with hm | hm
    · exact hp _ (List.mem_cons_self ..) hm
    · rcases mem_joinTail hm with e | ⟨q, hq, e⟩
      · exact absurd e (by decide)
      · exact hp q (List.mem_cons_of_mem _ hq) e
theorem rst_ne {l : List UInt8} (h : readB (rst l) = true) : spT 32 l = spl 32 (rst l) ∧ l = spH 32 l ++ 32 :: rst l := by
  rcases rst_cases l with ⟨_, h2⟩ | h'
  · rw [h2] at h; exact absurd rfl (readB_ne h)
  · exact h'
theorem spl_two {l : List UInt8} (h : readB (rst l) = true) : (spl 32 l).length = 2 := by
  have h1 := (rst_ne h).1
  have h2 := spT_nil (read_no32 h)
  unfold spl at h1 ⊢
  rw [h1, h2.1]
  rfl
theorem spl_len2 {l : List UInt8} (h : (spl 32 l).length = 2) : spl 32 l = [spH 32 l, rst l] := by
  rcases rst_cases l with ⟨h1, _⟩ | ⟨h1, _⟩
  · unfold spl at h; rw [h1] at h; simp at h
  · unfold spl at h
    rw [h1] at h
    have h0 : spT 32 (rst l) = [] := by
      unfold spl at h
      simpa using h
    have hj := spl_join 32 (rst l)
    rw [h0] at hj
    have hj : spH 32 (rst l) ++ [] = rst l := hj
    rw [List.append_nil] at hj
    unfold spl at h1 ⊢
    rw [h1, h0, hj]
theorem rst_len (l : List UInt8) : (rst l).length ≤ l.length := by
  rcases rst_cases l with ⟨_, h⟩ | ⟨_, h⟩
  · rw [h]; exact Nat.zero_le _
  · have := congrArg List.length h
    simp at this
    omega
noncomputable def nmS (l : List UInt8) (n : Nat) : ByteArray := if nmB (rst l) n then mkS (spH 32 l) else ⟨#[]⟩
theorem nmS_yes {l : List UInt8} {n : Nat} (h : nmB (rst l) n = true) : nmS l n = mkS (spH 32 l) := by unfold nmS; rw [h]; rfl
theorem nmS_no {l : List UInt8} {n : Nat} (h : nmB (rst l) n = false) : nmS l n = ⟨#[]⟩ := by unfold nmS; rw [h]; rfl
theorem nmS_size (l : List UInt8) (n : Nat) : (nmS l n).size ≤ l.length := by
  unfold nmS
  split
  · rw [mkS_size]; exact (spl_len 32 l).1
  · exact Nat.zero_le _
theorem cut_any (s : ByteArray) (w : World) (hs : s.size ≤ 1048576) (hL : Lies w) :
    Calls Tryd.prog 58 #[.string s, .string ⟨#[32]⟩] w fun e w' => e = .returned (.tuple #[.string (mkS (spH 32 s.data.toList)), .string (mkS (rst s.data.toList)), .bool (Lib.cut s.data.toList [32]).2.2]) ∧ Below w.heap.size w w' := by
  obtain ⟨m, hm⟩ := hL.most
  have h := Tryd.strings_Cut s ⟨#[32]⟩ m w (by omega) hm
  rw [show (⟨#[32]⟩ : ByteArray).data.toList = [32] from rfl, cut_spl] at h
  refine h.mono ?_
  rintro e w' ⟨rfl, n, rfl⟩
  exact ⟨rfl, below_drewN (Below.refl _ _) n⟩
set_option maxRecDepth 100000 in
set_option maxHeartbeats 1600000 in
theorem readWithId_any (s : ByteArray) (n : Nat) (w : World) (hs : s.size ≤ 1048576) (hn : n ≤ 64) (hL : Lies w) :
    Calls Tryd.prog 44 #[.string s, .int .i64 (n : Int)] w fun e w' => ∃ u, e = .returned (.tuple #[.string (nmS s.data.toList n), u, .bool (nmB (rst s.data.toList) n)]) ∧ Own w.heap.size w' u (nmL (rst s.data.toList) n) ∧ Below w.heap.size w w' := by
  have HC := Lib.hid (cut_any s w hs hL)
  have HL : Hid (∀ W, Below w.heap.size w W → Calls Tryd.prog 56 #[.string (mkS (rst s.data.toList))] W fun e w' => ∃ u, e = .returned (.tuple #[u, .bool (readB (rst s.data.toList))]) ∧ Own W.heap.size w' u (readL (rst s.data.toList)) ∧ Below W.heap.size W w') := Lib.hid (fun W hb => by
    have hl := rst_len s.data.toList
    have hz := size_list s
    have h := ReadList_i (mkS (rst s.data.toList)) W (by rw [mkS_size]; omega) (hL.later hb)
    rw [mkS_data] at h
    exact h)
  have HSY := Lib.hid (fun h => nmS_yes (l := s.data.toList) (n := n) h)
  have HSN := Lib.hid (fun h => nmS_no (l := s.data.toList) (n := n) h)
  generalize nmS s.data.toList n = nm at *
  generalize mkS (spH 32 s.data.toList) = hd at *
  generalize (Lib.cut s.data.toList [32]).2.2 = fd at *
  generalize rst s.data.toList = l at *
  generalize mkS l = sl at *
  obtain ⟨i1, hi, hz0, hz1, hz2⟩ := info_parts infoI
  have HG := Lib.hid (And.intro hi (And.intro hz0 (And.intro hz1 hz2)))
  have hbb : i1.bytes * n ≤ 281474976710656 := by rw [hz2]; omega
  have hmx : n ≤ maxLen := le_max (by omega)
  clear hi hz0 hz1 hz2 hL
  cases hr : readB l
  · have hnm : nmB l n = false := by unfold nmB; rw [hr]; rfl
    have HE := Lib.hid (readL_no hr)
    rw [hr, HE.out] at HL
    rw [hnm, nmL_no hnm, HSN.out hnm]
    clear hr hnm HE HSY HSN
    go_enter Tryd.func44, Tryd.ntmps44
    go_wp2_with fail
    refine HC.out.mono ?_
    rintro e w0 ⟨rfl, hb0⟩
    go_wp2_with fail
    refine (HL.out _ hb0).mono ?_
    rintro e w1 ⟨u, rfl, ho, hb1'⟩
    have hb1 := hb0.trans (hb1'.mono hb0.size)
    have hsz1 := hb1.size
    go_wp2_with fail
    obtain ⟨w2, hrun, hown, hgr⟩ := run_make_full (P := Tryd.prog) w1.drew w1.heap.size 57 2 i1 (.int .i64 0) 1 Tryd.underlying57 HG.out.1 HG.out.2.1 HG.out.2.2.1 .i64 .i64 n hbb hmx (Nat.le_refl _)
    go_region_held3 (fun _ => True) (trivial) (first | fail)
    have hb2 : Below w.heap.size w w2 := (Below.drew hb1).grown hgr hsz1 (fun k hk => by cases hk)
    have HO : Hid (Own w1.heap.size w2 (.slice (some ⟨w1.heap.size, 0, none⟩) n n) (List.replicate n 0)) := Lib.hid (by
      unfold Own
      rw [List.length_replicate, ← replicate_vals]
      have e : (madeCells (Value.int .i64 0).cells (n * 1)).toList = List.replicate n (Value.int .i64 0) := by
        rw [Nat.mul_one]; exact toList_madeCells_one _ _
      rw [e] at hown
      exact hown)
    clear hown hgr hbb hmx hrun
    go_wp2_with fail
    go_ret3
    exact ⟨_, rfl, HO.out.base (fun g h => by have := (World.ownsRow.lt HO.out g h).1; omega), hb2⟩
  have HE := Lib.hid (readL_yes hr)
  rw [hr, HE.out] at HL
  by_cases hn' : (readV l).length = n
  · have hnm : nmB l n = true := by unfold nmB; rw [hr, decide_eq_true hn']; rfl
    rw [hnm, nmL_yes hnm, HSY.out hnm]
    clear hr hnm HE HSY HSN
    generalize readV l = xs at *
    go_enter Tryd.func44, Tryd.ntmps44
    go_wp2_with fail
    refine HC.out.mono ?_
    rintro e w0 ⟨rfl, hb0⟩
    go_wp2_with fail
    refine (HL.out _ hb0).mono ?_
    rintro e w1 ⟨u, rfl, ho, hb1'⟩
    have hb1 := hb0.trans (hb1'.mono hb0.size)
    have HO := Lib.hid ho
    obtain ⟨AL, cl, rfl, -, -⟩ := ho.slice
    have hnb : ((xs.length : Int) == (n : Int)) = true := by rw [beq_iff_eq]; omega
    have hz0 := hb0.size
    clear ho hn' hbb hmx
    go_wp2_with fail
    go_ret3
    exact ⟨_, rfl, HO.out.base (fun g h => by have := (World.ownsRow.lt HO.out g h).1; omega), hb1⟩
  · have hnm : nmB l n = false := by unfold nmB; rw [hr, decide_eq_false hn']; rfl
    rw [hnm, nmL_no hnm, HSN.out hnm]
    clear hr hnm HE HSY HSN
    generalize readV l = xs at *
    go_enter Tryd.func44, Tryd.ntmps44
    go_wp2_with fail
    refine HC.out.mono ?_
    rintro e w0 ⟨rfl, hb0⟩
    go_wp2_with fail
    refine (HL.out _ hb0).mono ?_
    rintro e w1 ⟨u, rfl, ho, hb1'⟩
    have hb1 := hb0.trans (hb1'.mono hb0.size)
    have hsz1 := hb1.size
    obtain ⟨AL, cl, rfl, -, -⟩ := ho.slice
    have hnb : ((xs.length : Int) == (n : Int)) = false := by rw [beq_eq_false_iff_ne]; omega
    clear hn' ho
    go_wp2_with fail
    obtain ⟨w2, hrun, hown, hgr⟩ := run_make_full (P := Tryd.prog) w1.drew w1.heap.size 57 2 i1 (.int .i64 0) 1 Tryd.underlying57 HG.out.1 HG.out.2.1 HG.out.2.2.1 .i64 .i64 n hbb hmx (Nat.le_refl _)
    go_region_held3 (fun _ => True) (trivial) (first | fail)
    have hb2 : Below w.heap.size w w2 := (Below.drew hb1).grown hgr hsz1 (fun k hk => by cases hk)
    have HO : Hid (Own w1.heap.size w2 (.slice (some ⟨w1.heap.size, 0, none⟩) n n) (List.replicate n 0)) := Lib.hid (by
      unfold Own
      rw [List.length_replicate, ← replicate_vals]
      have e : (madeCells (Value.int .i64 0).cells (n * 1)).toList = List.replicate n (Value.int .i64 0) := by
        rw [Nat.mul_one]; exact toList_madeCells_one _ _
      rw [e] at hown
      exact hown)
    clear hown hgr hbb hmx hrun
    go_wp2_with fail
    go_ret3
    exact ⟨_, rfl, HO.out.base (fun g h => by have := (World.ownsRow.lt HO.out g h).1; omega), hb2⟩
end Go.Proofs.YtemidjejelmdlaaDoor
