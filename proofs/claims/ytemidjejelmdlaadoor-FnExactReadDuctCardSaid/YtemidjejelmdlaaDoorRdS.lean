/- A text divided at a byte; a list read back from its text, by the reference. Conditions: the lengths that each theorem names. -/
import Derived.Test.YtemidjejelmdlaaDoorRdL
import Derived.Test.YtemidjejelmdlaaDoorRdI
namespace Go.Proofs.YtemidjejelmdlaaDoor
open Go.RowKit Go.PlainAid
open Pl
def mkS (p : List UInt8) : ByteArray := ⟨p.toArray⟩
theorem mkS_data (p : List UInt8) : (mkS p).data.toList = p := by unfold mkS; simp
theorem mkS_size (p : List UInt8) : (mkS p).size = p.length := mk_size p
theorem extract_mk (s : ByteArray) (a b : Nat) : s.extract a b = mkS ((s.data.toList.drop a).take (b - a)) := by
  apply ByteArray.ext
  rw [ByteArray.data_extract]
  apply Array.toList_inj.1
  show (s.data.extract a b).toList = (mkS ((s.data.toList.drop a).take (b - a))).data.toList
  rw [mkS_data, Array.toList_extract, List.extract_eq_take_drop]
theorem spH_cons {c b : UInt8} {r : List UInt8} (h : b ≠ c) : spH c (b :: r) = b :: spH c r := by rw [spH, if_neg h]
theorem spT_cons {c b : UInt8} {r : List UInt8} (h : b ≠ c) : spT c (b :: r) = spT c r := by rw [spT, if_neg h]
theorem spH_hit {c : UInt8} {r : List UInt8} : spH c (c :: r) = [] := by rw [spH, if_pos rfl]
theorem spT_hit {c : UInt8} {r : List UInt8} : spT c (c :: r) = spH c r :: spT c r := by rw [spT, if_pos rfl]
theorem drop_cons {l : List UInt8} {k : Nat} (h : k < l.length) : l.drop k = l.getD k 0 :: l.drop (k + 1) := by
  rw [List.drop_eq_getElem_cons h, show l.getD k 0 = l[k] by rw [List.getD_eq_getElem?_getD, List.getElem?_eq_getElem h]; rfl]
theorem take_more {l : List UInt8} {a k : Nat} (h : a ≤ k) (hk : k < l.length) : (l.drop a).take (k + 1 - a) = (l.drop a).take (k - a) ++ [l.getD k 0] := by
  have hd : k - a < (l.drop a).length := by rw [List.length_drop]; omega
  rw [show k + 1 - a = (k - a) + 1 by omega, List.take_succ_eq_append_getElem hd, List.getElem_drop]
  congr 2
  rw [List.getD_eq_getElem?_getD, List.getElem?_eq_getElem hk]
  show l[a + (k - a)] = l[k]
  congr 1
  omega
theorem infoS2 : (Tryd.prog.info? 9).map (fun i => (i.zero, i.size, i.bytes)) = some (some (.string ByteArray.empty), 1, 16) := by kernel_rfl
set_option maxRecDepth 100000 in
set_option maxHeartbeats 1600000 in
theorem l01Split_any (s : ByteArray) (c : UInt8) (ci : Int) (hc : ci = ((c.toNat : Nat) : Int)) (w : World) (hs : s.size ≤ 1048576) :
    Calls Tryd.prog 42 #[.string s, .int .u8 ci] w fun e w' => ∃ u, e = .returned u ∧ OwnR 9 encS 1 w.heap.size w' u ((spl c s.data.toList).map mkS) ∧ Below w.heap.size w w' := by
  have HSZ := Lib.hid (size_list s)
  have HBL := Lib.hid (bt_list s)
  have HC := Lib.hid hc
  have hb := get_bt s
  obtain ⟨i0, hi, hz0, hz1, hz2⟩ := info_parts infoS2
  have HF := Lib.hid (And.intro hi (And.intro hz0 (And.intro hz1 hz2)))
  clear hi hz0 hz1 hz2 hc
  go_enter Tryd.func42, Tryd.ntmps42
  go_wp2
  go_loopw [5, 6, 7] (fun u fi ki wr => ∃ (k fr : Nat) (out : List (List UInt8)), k ≤ s.size ∧ fr ≤ k ∧ ki = .int .i64 k ∧ fi = .int .i64 fr ∧ out.length ≤ fr ∧ spl c s.data.toList = out ++ ((s.data.toList.drop fr).take (k - fr) ++ spH c (s.data.toList.drop k)) :: spT c (s.data.toList.drop k) ∧ OwnR 9 encS 1 w.heap.size wr u (out.map mkS) ∧ Below w.heap.size w wr) (fun _ _ ki _ => s.size - (intOf ki).toNat)
  case atStart => exact ⟨0, 0, [], Nat.zero_le _, Nat.le_refl _, rfl, rfl, Nat.le_refl _, by simp [spl], OwnR.empty (Nat.le_refl _), (Below.refl _ _).alloc (Nat.le_refl _) _⟩
  case round =>
    obtain ⟨k, fr, out, hk, hfk, rfl, rfl, hol, hsp, ho, hbw⟩ := hrel
    have HO1 := Lib.hid ho
    have HSP := Lib.hid hsp
    have hsz := hbw.size
    have hml : (out.map mkS).length ≤ 1048576 := by rw [List.length_map]; omega
    clear ho hsp
    have f0 : (0 : Int) ≤ (fr : Int) := by omega
    have f1 : (fr : Int) ≤ (k : Int) := by omega
    by_cases hlt : k < s.size
    · have hkl : k < s.data.toList.length := by rw [HSZ.out]; exact hlt
      have k0 : (0 : Int) ≤ (k : Int) := by omega
      have k1 : (k : Int) < s.size := by omega
      have k2 : (k : Int) ≤ s.size := by omega
      have HDC := Lib.hid (drop_cons hkl)
      have HTM := Lib.hid (take_more (l := s.data.toList) hfk hkl)
      have hbk := HBL.out k
      by_cases he : s.data.toList.getD k 0 = c
      · have heb : bt s k = ci := by rw [hbk, he, HC.out]
        have HEX := Lib.hid (extract_mk s fr k)
        have HN : Hid (spl c s.data.toList = (out ++ [(s.data.toList.drop fr).take (k - fr)]) ++ ((s.data.toList.drop (k + 1)).take (k + 1 - (k + 1)) ++ spH c (s.data.toList.drop (k + 1))) :: spT c (s.data.toList.drop (k + 1))) := Lib.hid (by
          rw [HSP.out, HDC.out, he, spH_hit, spT_hit]; simp)
        have HM : Hid ((out ++ [(s.data.toList.drop fr).take (k - fr)]).map mkS = out.map mkS ++ [s.extract fr k]) := Lib.hid (by rw [List.map_append, HEX.out]; rfl)
        have hlen : (out ++ [(s.data.toList.drop fr).take (k - fr)]).length ≤ k + 1 := by simp; omega
        generalize out ++ [(s.data.toList.drop fr).take (k - fr)] = out2 at *
        clear hbk he hkl
        go_wp2_with (at_builtin; refine wpList_append_own_at _ rfl _ _ 69 rfl w.heap.size 9 i0 (.string ByteArray.empty) 1 16 Tryd.underlying69 HF.out.1 HF.out.2.1 HF.out.2.2.1 HF.out.2.2.2 rfl (by decide) _ _ _ rfl (HO1.out.later ((Below.refl _ _).alloc (Nat.le_refl _) _)) ⟨wr.heap.size, 0, none⟩ 1 1 [.string _] rfl rfl (cell_one_new _ _ _) (by intro u hu; simp at hu; subst hu; rfl) (le_max (by omega)) (by omega) (by simp; omega) ?_; intro av aw ah ag an aa)
        have hbe := Below.appendR hbw HO1.out hsz ag
        have HO3 := Lib.hid (OwnR.appended (x := s.extract fr k) rfl ah)
        clear ah ag an aa
        go_wp2
        go_roundw
        case rel => exact ⟨k + 1, k + 1, out2, by omega, Nat.le_refl _, by go_num, by go_num, hlen, HN.out, by rw [HM.out]; exact HO3.out, hbe⟩
        case measure => simp [intOf]; omega
      · have heb : (bt s k == ci) = false := by
          rw [beq_eq_false_iff_ne, hbk, HC.out]
          intro e
          exact he (UInt8.toNat_inj.1 (by omega))
        have HN : Hid (spl c s.data.toList = out ++ ((s.data.toList.drop fr).take (k + 1 - fr) ++ spH c (s.data.toList.drop (k + 1))) :: spT c (s.data.toList.drop (k + 1))) := Lib.hid (by
          rw [HSP.out, HDC.out, spH_cons he, spT_cons he, HTM.out]; simp)
        clear hbk he hkl
        go_wp2
        go_roundw
        case rel => exact ⟨k + 1, fr, out, by omega, by omega, by go_num, rfl, hol, HN.out, HO1.out, hbw⟩
        case measure => simp [intOf]; omega
    · obtain rfl : k = s.size := by omega
      have HEX := Lib.hid (extract_mk s fr s.size)
      have HM : Hid ((spl c s.data.toList).map mkS = out.map mkS ++ [s.extract fr s.size]) := Lib.hid (by
        rw [HSP.out, List.drop_eq_nil_of_le (show s.data.toList.length ≤ s.size by rw [HSZ.out]; exact Nat.le_refl _), HEX.out]
        simp [spH, spT])
      go_wp2_with (at_builtin; refine wpList_append_own_at _ rfl _ _ 69 rfl w.heap.size 9 i0 (.string ByteArray.empty) 1 16 Tryd.underlying69 HF.out.1 HF.out.2.1 HF.out.2.2.1 HF.out.2.2.2 rfl (by decide) _ _ _ rfl (HO1.out.later ((Below.refl _ _).alloc (Nat.le_refl _) _)) ⟨wr.heap.size, 0, none⟩ 1 1 [.string _] rfl rfl (cell_one_new _ _ _) (by intro u hu; simp at hu; subst hu; rfl) (le_max (by omega)) (by omega) (by simp; omega) ?_; intro av aw ah ag an aa)
      have hbe := Below.appendR hbw HO1.out hsz ag
      have HO3 := Lib.hid (OwnR.appended (x := s.extract fr s.size) rfl ah)
      clear ah ag an aa
      go_wp2
      go_ret
      exact ⟨_, rfl, by rw [HM.out]; exact HO3.out, hbe⟩
theorem spl_len (c : UInt8) : ∀ (l : List UInt8), (spH c l).length ≤ l.length ∧ ∀ p ∈ spT c l, p.length ≤ l.length
  | [] => ⟨Nat.le_refl _, fun p hp => by simp [spT] at hp⟩
  | b :: r => by
    obtain ⟨h1, h2⟩ := spl_len c r
    by_cases h : b = c
    · subst h
      rw [spH_hit, spT_hit]
      refine ⟨Nat.zero_le _, fun p hp => ?_⟩
      rcases List.mem_cons.1 hp with rfl | hp
      · simp; omega
      · have := h2 p hp; simp; omega
    · rw [spH_cons h, spT_cons h]
      refine ⟨by simp; omega, fun p hp => ?_⟩
      have := h2 p hp; simp; omega
theorem part_len {c : UInt8} {l : List UInt8} {k : Nat} (h : k < (spl c l).length) : ((spl c l).getD k []).length ≤ l.length := by
  rw [show (spl c l).getD k [] = (spl c l)[k] by rw [List.getD_eq_getElem?_getD, List.getElem?_eq_getElem h]; rfl]
  have hm := List.getElem_mem h
  rcases List.mem_cons.1 hm with e | e
  · rw [e]; exact (spl_len c l).1
  · exact (spl_len c l).2 _ e
theorem all_stopL {ps : List (List UInt8)} {P : List UInt8 → Bool} {m : Nat} (m1 : m ≤ ps.length) (m2 : ∀ k, k < m → P (ps.getD k []) = true) (m3 : m < ps.length → P (ps.getD m []) = false) : ps.all P = decide (m = ps.length) := by
  have hg : ∀ k (h : k < ps.length), ps.getD k [] = ps[k] := fun k h => by rw [List.getD_eq_getElem?_getD, List.getElem?_eq_getElem h]; rfl
  rw [Bool.eq_iff_iff, List.all_eq_true, decide_eq_true_iff]
  constructor
  · intro h
    rcases Nat.lt_or_ge m ps.length with hlt | hge
    · have h3 := m3 hlt
      rw [hg m hlt, h _ (List.getElem_mem hlt)] at h3
      cases h3
    · omega
  · intro h x hx
    obtain ⟨k, hk, rfl⟩ := List.getElem_of_mem hx
    have := m2 k (by omega)
    rwa [hg k hk] at this
theorem take_num {ps : List (List UInt8)} {k : Nat} (h : k < ps.length) : (ps.take (k + 1)).map numV = (ps.take k).map numV ++ [numV (ps.getD k [])] := by
  rw [List.take_succ_eq_append_getElem h, List.map_append, show ps.getD k [] = ps[k] by rw [List.getD_eq_getElem?_getD, List.getElem?_eq_getElem h]; rfl]
  rfl
theorem str_part {B : Nat} {w : World} {A : Option Addr} {ps : List (List UInt8)} (h : Recs encS 1 B w A (ps.map mkS)) {k : Nat} (hk : k < ps.length) : ∃ b o, A = some ⟨b, o, none⟩ ∧ b < B ∧ w.cell? ⟨b, o + k, none⟩ = some (.string (mkS (ps.getD k []))) := by
  obtain ⟨b, o, e, hb, hc⟩ := h.str (k := k) (by rw [List.length_map]; exact hk)
  refine ⟨b, o, e, hb, ?_⟩
  rw [hc]
  congr 2
  rw [List.getD_eq_getElem?_getD, List.getD_eq_getElem?_getD, List.getElem?_map, List.getElem?_eq_getElem hk]
  rfl
theorem dash_of {s : ByteArray} (h : s.data.toList = [45]) : s = ⟨#[45]⟩ := by rw [← mk_list s, h]
set_option maxRecDepth 100000 in
set_option maxHeartbeats 1600000 in
theorem ReadList_s (s : ByteArray) (w : World) (hs : s.size ≤ 1048576) :
    Calls Tryd.prog 43 #[.string s] w fun e w' => ∃ u, e = .returned (.tuple #[u, .bool (readB s.data.toList)]) ∧ Own w.heap.size w' u (readL s.data.toList) ∧ Below w.heap.size w w' := by
  by_cases hd : s.data.toList = [45]
  · have hr : readB s.data.toList = true := by rw [hd]; exact readB_dash
    have HE : Hid (readL s.data.toList = []) := Lib.hid (by rw [readL_yes hr, hd]; exact readV_dash)
    rw [HE.out, hr]
    obtain rfl := dash_of hd
    clear hd hr HE
    go_enter Tryd.func43, Tryd.ntmps43
    go_wp2
    go_ret2
    exact ⟨_, rfl, Own.empty (Nat.le_refl _), (Below.refl _ _).alloc (Nat.le_refl _) _⟩
  have hd' : (s.data.toList == [45]) = false := by rw [beq_eq_false_iff_ne]; exact hd
  have hsb : (s.toList == [45]) = false := by rw [beq_eq_false_iff_ne, ByteArray.toList_eq]; exact hd
  have HPL : Hid (∀ k, k < (spl 44 s.data.toList).length → ((spl 44 s.data.toList).getD k []).length ≤ 1048576) := Lib.hid (fun k hk => by have := part_len hk; have := size_list s; omega)
  have HRB : Hid (readB s.data.toList = (decide ((spl 44 s.data.toList).length ≤ 64) && (spl 44 s.data.toList).all partOk)) := Lib.hid (by unfold readB; rw [hd']; rfl)
  have HRV : Hid (readV s.data.toList = (spl 44 s.data.toList).map numV) := Lib.hid (by unfold readV; rw [hd']; rfl)
  have HSp := Lib.hid (l01Split_any s 44 44 rfl w hs)
  obtain ⟨R, hR⟩ : ∃ R, R = readL s.data.toList := ⟨_, rfl⟩
  obtain ⟨V, hV⟩ : ∃ V, V = readB s.data.toList := ⟨_, rfl⟩
  rw [← hR, ← hV]
  have HNO : Hid (readB s.data.toList = false → R = [] ∧ V = false) := Lib.hid (fun h => ⟨by rw [hR]; exact readL_no h, by rw [hV]; exact h⟩)
  have HYES : Hid (readB s.data.toList = true → R = readV s.data.toList ∧ V = true) := Lib.hid (fun h => ⟨by rw [hR]; exact readL_yes h, by rw [hV]; exact h⟩)
  clear hR hV hd hd'
  rw [HRB.out, HRV.out] at HYES
  rw [HRB.out] at HNO
  generalize spl 44 s.data.toList = ps at *
  by_cases h64 : (ps.length : Int) ≤ 64
  rotate_left
  · obtain ⟨rfl, rfl⟩ := HNO.out (by rw [decide_eq_false (show ¬ ps.length ≤ 64 by omega)]; rfl)
    clear HYES HRB HRV HPL HNO
    go_enter Tryd.func43, Tryd.ntmps43
    go_wp2_with fail
    refine HSp.out.mono ?_
    rintro e w1 ⟨u, rfl, ho, hb1⟩
    obtain ⟨AP, cp, rfl, -, -⟩ := ho.slice encS_len
    have hnl : (ps.map mkS).length = ps.length := List.length_map _
    obtain ⟨n, hn⟩ : ∃ n, n = (ps.map mkS).length := ⟨_, rfl⟩
    rw [← hn]
    have hn64 : ¬ (n : Int) ≤ 64 := by omega
    clear hn hnl ho
    go_wp2_with fail
    go_ret2
    exact ⟨_, rfl, Own.nil_ _ _, hb1⟩
  obtain ⟨m, m1, m2, m3⟩ := first_stop (fun k => partOk (ps.getD k [])) ps.length
  have HA := Lib.hid (all_stopL m1 m2 m3)
  have M2 := Lib.hid m2
  have M3 := Lib.hid m3
  obtain ⟨i1, hi, hz0, hz1, hz2⟩ := info_parts infoI
  have HG := Lib.hid (And.intro hi (And.intro hz0 (And.intro hz1 hz2)))
  clear m2 m3 hi hz0 hz1 hz2 HRB HRV
  go_enter Tryd.func43, Tryd.ntmps43
  go_wp2_with fail
  refine HSp.out.mono ?_
  rintro e w1 ⟨u, rfl, ho, hb1⟩
  obtain ⟨AP, cp, rfl, hrec, -⟩ := ho.slice encS_len
  have HR := Lib.hid hrec
  have hsz1 := hb1.size
  obtain ⟨n, hn⟩ : ∃ n, n = (ps.map mkS).length := ⟨_, rfl⟩
  have HN : Hid (n = ps.length) := Lib.hid (by rw [hn, List.length_map])
  rw [← hn]
  have hn64 : (n : Int) ≤ 64 := by have := HN.out; omega
  have hmn : m ≤ n := by have := HN.out; omega
  clear hn ho hrec m1 h64
  go_wp2
  go_loopw [5, 6] (fun v i wr => ∃ k : Nat, k ≤ m ∧ i = .int .i64 k ∧ Own w1.heap.size wr v ((ps.take k).map numV) ∧ Below w1.heap.size w1 wr) (fun _ i _ => n - (intOf i).toNat)
  case atStart => exact ⟨0, Nat.zero_le _, rfl, Own.empty (Nat.le_refl _), (Below.refl _ _).alloc (Nat.le_refl _) _⟩
  case round =>
    obtain ⟨k, hk, rfl, ho, hb⟩ := hrel
    have HO1 := Lib.hid ho
    have hbw := hb1.trans (hb.mono hsz1)
    have hsz := hb.size
    clear ho
    by_cases hlt : k < n
    · obtain ⟨b, o, rfl, hab, hc⟩ := str_part (HR.out.below hb) (k := k) (by rw [← HN.out]; exact hlt)
      have hpl := HPL.out k (by rw [← HN.out]; exact hlt)
      have HT := Lib.hid (take_num (ps := ps) (k := k) (by rw [← HN.out]; exact hlt))
      have hl : ((ps.take k).map numV).length ≤ 64 := by rw [List.length_map, List.length_take]; omega
      have i0 : (0 : Int) ≤ (k : Int) := by omega
      have i1' : (k : Int) < n := by omega
      have HP : Hid (k < m → partOk (ps.getD k []) = true) := Lib.hid (M2.out k)
      have HQ : Hid (k = m → partOk (ps.getD k []) = false) := Lib.hid (fun e => by subst e; exact M3.out (by rw [← HN.out]; exact hlt))
      generalize (ps.take k).map numV = ts at *
      generalize ps.getD k [] = p at *
      have HNu : Hid (∀ W, Calls Tryd.prog 57 #[.string (mkS p)] W fun e w' => e = .returned (.tuple #[.int .i64 (numN p), .bool (numB p)]) ∧ W = w') := Lib.hid (fun W => by
        have h := l01Number_any (mkS p) W (by rw [mkS_size]; omega)
        rw [mkS_data] at h
        exact h)
      generalize hps : mkS p = sp at *
      clear hpl hps
      by_cases hkm : k < m
      · have hp := HP.out hkm
        unfold partOk at hp
        rw [Bool.and_eq_true] at hp
        obtain ⟨p1, p2⟩ := hp
        have HW := Lib.hid (fun W => eqb (l00In_any (numV p) (-1000000000000) 1000000000000 W) p2)
        have hnn := numN_yes p1
        rw [hnn, p1] at HNu
        clear hnn p1 p2 HP HQ
        generalize numV p = n at *
        go_wp2_with (first | (go_at_call 57; refine (HNu.out _).mono ?_; rintro e w' ⟨rfl, rfl⟩) | (go_at_call 54; refine (HW.out _).mono ?_; rintro e w' ⟨rfl, rfl⟩) | (at_builtin; refine wpList_append_own_at _ rfl _ _ 57 rfl w1.heap.size 2 i1 (.int .i64 0) 1 8 Tryd.underlying57 HG.out.1 HG.out.2.1 HG.out.2.2.1 HG.out.2.2.2 rfl (by decide) _ _ _ rfl (HO1.out.later ((Below.refl _ _).alloc (Nat.le_refl _) _)) ⟨wr.heap.size, 0, none⟩ 1 1 [.int .i64 n] rfl rfl (cell_one_new _ _ _) (by intro u hu; simp at hu; subst hu; rfl) (le_max (by omega)) (by omega) (by simp; omega) ?_; intro av aw ah ag an aa))
        have hbe := Below.appended hb HO1.out hsz ag
        have HO3 := Lib.hid (Own.appended ah)
        clear ah ag an aa
        go_roundw
        case rel => exact ⟨k + 1, by omega, by go_num, by rw [HT.out]; exact HO3.out, hbe⟩
        case measure => simp [intOf]; omega
      · obtain rfl : k = m := by omega
        obtain ⟨rfl, rfl⟩ := HNO.out (by rw [HA.out, decide_eq_false (show ¬ k = ps.length by rw [← HN.out]; omega), Bool.and_false])
        have hp := HQ.out rfl
        unfold partOk at hp
        cases p1 : numB p
        · have hnn := numN_no p1
          rw [hnn, p1] at HNu
          clear hnn p1 hp HP HQ HYES HNO
          go_wp2_with (go_at_call 57; refine (HNu.out _).mono ?_; rintro e w' ⟨rfl, rfl⟩)
          go_ret2
          exact ⟨_, rfl, Own.nil_ _ _, hbw⟩
        · rw [p1, Bool.true_and] at hp
          have HW := Lib.hid (fun W => eqb (l00In_any (numV p) (-1000000000000) 1000000000000 W) hp)
          have hnn := numN_yes p1
          rw [hnn, p1] at HNu
          clear hnn p1 hp HP HQ HYES HNO
          generalize numV p = n at *
          go_wp2_with (first | (go_at_call 57; refine (HNu.out _).mono ?_; rintro e w' ⟨rfl, rfl⟩) | (go_at_call 54; refine (HW.out _).mono ?_; rintro e w' ⟨rfl, rfl⟩))
          go_ret2
          exact ⟨_, rfl, Own.nil_ _ _, hbw⟩
    · have hkn : k = m ∧ k = n := by omega
      obtain ⟨h1, h2⟩ := HYES.out (by rw [HA.out, decide_eq_true (show m = ps.length by rw [← HN.out]; omega), decide_eq_true (show ps.length ≤ 64 by rw [← HN.out]; omega)]; rfl)
      have HV1 := Lib.hid h2
      have HR1 : Hid (R = (ps.take k).map numV) := Lib.hid (by rw [h1, hkn.2, HN.out, List.take_length])
      have i1' : ¬ (k : Int) < n := by omega
      clear h1 h2 hkn
      go_wp2
      go_ret2
      exact ⟨_, by rw [HV1.out]; rfl, by rw [HR1.out]; exact HO1.out.base (fun g h => by have := (World.ownsRow.lt HO1.out g h).1; omega), hbw⟩
end Go.Proofs.YtemidjejelmdlaaDoor
