/- A list read back from its text, by the program. Conditions: the library's variables lie in memory; the lengths that each theorem names. -/
import Derived.Test.YtemidjejelmdlaaDoorRdS
import Derived.Test.YtemidjejelmdlaaDoorShC
namespace Go.Proofs.YtemidjejelmdlaaDoor
open Go.RowKit Go.PlainAid
open Pl
/-- The library's variables that are read lie in memory, and stay. -/
structure Lies (w : World) : Prop where
  tab : Tab w
  errs : Errs w
  most : ∃ m : Int, w.cell? ⟨0, 0, none⟩ = some (.int .i64 m)
theorem Lies.later {w w' : World} (h : Lies w) (hb : Below w.heap.size w w') : Lies w' := ⟨h.tab.later hb, h.errs.later hb, by obtain ⟨m, hm⟩ := h.most; exact ⟨m, cell_later hb hm⟩⟩
theorem numV_bd {p : List UInt8} (h : numB p = true) : -1000000000000000000 ≤ numV p ∧ numV p ≤ 1000000000000000000 := by
  have := num_val h
  unfold numV
  split <;> omega
theorem map_fits {ps : List (List UInt8)} (h : ∀ p ∈ ps, numB p = true) : Fits (ps.map numV) := by
  intro x hx
  obtain ⟨p, hp, rfl⟩ := List.mem_map.1 hx
  have := numV_bd (h p hp)
  omega
theorem splitB_prt (s : ByteArray) : Lib.splitB ⟨#[44]⟩ 0 (min 65 (s.size + 1) - 1) s = (prt s.data.toList).map mkS := by
  have h := Lib.splitB_data ⟨#[44]⟩ 0 (min 65 (s.size + 1) - 1) s
  unfold prt
  rw [size_list]
  rw [show (⟨#[44]⟩ : ByteArray).data.toList = [44] from rfl] at h
  rw [← h, List.map_map]
  conv => lhs; rw [← List.map_id (Lib.splitB ⟨#[44]⟩ 0 (min 65 (s.size + 1) - 1) s)]
  refine List.map_congr_left (fun b _ => ?_)
  show b = mkS b.data.toList
  unfold mkS
  rw [mk_list]
theorem cells_recs {w : World} {ss : List ByteArray} {N : Nat} {t : TypeId} (_ : 0 < ss.length) : Recs encS 1 (w.alloc (.cells (Lib.cellsOf ss N) t)).heap.size (w.alloc (.cells (Lib.cellsOf ss N) t)) (some ⟨w.heap.size, 0, none⟩) ss := by
  refine fun _ => ⟨_, _, rfl, by simp, fun k hk j u hu => ?_⟩
  have hj : j = 0 := by
    have := (List.getElem?_eq_some_iff.1 hu).1
    simp [encS] at this
    omega
  subst hj
  have hu : some (Value.string ss[k]) = some u := hu
  rw [← hu, Nat.mul_one, Nat.add_zero, Nat.zero_add]
  have hc : (Lib.cellsOf ss N)[k]? = some (.string ss[k]) := by
    unfold Lib.cellsOf
    rw [List.getElem?_toArray, List.getElem?_append_left (by rw [List.length_map]; exact hk), List.getElem?_map, List.getElem?_eq_getElem hk]
    rfl
  have hb := World.news_of_block (w := w.alloc (.cells (Lib.cellsOf ss N) t)) (cs := Lib.cellsOf ss N) (t := t) (fr := (0, 0)) (heap_alloc_new _ _) k (.string ss[k]) (by rw [Array.getElem?_toList]; exact hc)
  rw [Addr.add_lit] at hb
  rw [Nat.zero_add] at hb
  exact hb
theorem prt_len (l : List UInt8) : (prt l).length ≤ 65 := by
  unfold prt
  have h : ∀ (k : Nat) (l : List UInt8), (Lib.splitK [44] 0 k l).length ≤ k + 1 := by
    intro k
    induction k with
    | zero => intro l; simp [Lib.splitK]
    | succ k ih =>
      intro l
      unfold Lib.splitK
      split
      · simp
      · have := ih (l.drop ((Lib.index l [44]).toNat + [(44 : UInt8)].length))
        rw [List.length_cons]
        omega
  have := h (min 65 (l.length + 1) - 1) l
  omega
theorem splitK_len : ∀ (k : Nat) (l : List UInt8), ∀ p ∈ Lib.splitK [44] 0 k l, p.length ≤ l.length := by
  intro k
  induction k with
  | zero => intro l p hp; simp [Lib.splitK] at hp; subst hp; exact Nat.le_refl _
  | succ k ih =>
    intro l p hp
    unfold Lib.splitK at hp
    split at hp
    · simp at hp; subst hp; exact Nat.le_refl _
    · rcases List.mem_cons.1 hp with rfl | hp
      · rw [List.length_take]; omega
      · have := ih _ p hp
        rw [List.length_drop] at this
        omega
theorem prt_part {l : List UInt8} {k : Nat} (h : k < (prt l).length) : ((prt l).getD k []).length ≤ l.length := by
  rw [show (prt l).getD k [] = (prt l)[k] by rw [List.getD_eq_getElem?_getD, List.getElem?_eq_getElem h]; rfl]
  exact splitK_len _ l _ (List.getElem_mem h)
set_option maxRecDepth 100000 in
set_option maxHeartbeats 1600000 in
theorem ReadList_i (s : ByteArray) (w : World) (hs : s.size ≤ 1048576) (hL : Lies w) :
    Calls Tryd.prog 56 #[.string s] w fun e w' => ∃ u, e = .returned (.tuple #[u, .bool (readB s.data.toList)]) ∧ Own w.heap.size w' u (readL s.data.toList) ∧ Below w.heap.size w w' := by
  by_cases hd : s.data.toList = [45]
  · have hr : readB s.data.toList = true := by rw [hd]; exact readB_dash
    have HE : Hid (readL s.data.toList = []) := Lib.hid (by rw [readL_yes hr, hd]; exact readV_dash)
    rw [HE.out, hr]
    obtain rfl := dash_of hd
    clear hd hr HE hL
    go_enter Tryd.func56, Tryd.ntmps56
    go_wp2
    go_ret2
    exact ⟨_, rfl, Own.nil_ _ _, Below.refl _ _⟩
  have hsb : (s.toList == [45]) = false := by rw [beq_eq_false_iff_ne, ByteArray.toList_eq]; exact hd
  obtain ⟨hi1, hi2⟩ := impl_read hd
  have HI1 := Lib.hid hi1
  have HI2 := Lib.hid hi2
  have HPN := Lib.hid (prt_ne s.data.toList)
  have HPS : Hid (∀ k, k < (prt s.data.toList).length → ((prt s.data.toList).getD k []).length ≤ 1048576) := Lib.hid (fun k hk => by
    have h := prt_part hk
    have := size_list s
    omega)
  have HPL : Hid ((prt s.data.toList).length ≤ 65) := Lib.hid (prt_len _)
  obtain ⟨R, hR⟩ : ∃ R, R = readL s.data.toList := ⟨_, rfl⟩
  obtain ⟨V, hV⟩ : ∃ V, V = readB s.data.toList := ⟨_, rfl⟩
  rw [← hR, ← hV]
  have HNO : Hid (readB s.data.toList = false → R = [] ∧ V = false) := Lib.hid (fun h => ⟨by rw [hR]; exact readL_no h, by rw [hV]; exact h⟩)
  have HYES : Hid (readB s.data.toList = true → R = readV s.data.toList ∧ V = true) := Lib.hid (fun h => ⟨by rw [hR]; exact readL_yes h, by rw [hV]; exact h⟩)
  clear hR hV hd hi1 hi2
  obtain ⟨mx, hmx⟩ := hL.most
  have HX := Tryd.strings_SplitN s ⟨#[44]⟩ 65 mx w (by omega) hmx (by decide) (by decide) (by decide)
  rw [splitB_prt] at HX
  have HLi := Lib.hid hL
  clear hmx hL
  generalize prt s.data.toList = ps at *
  obtain ⟨N, hN⟩ : ∃ N, N = min 65 (s.size + 1) := ⟨_, rfl⟩
  rw [← hN] at HX
  clear hN
  have hnp : 0 < (ps.map mkS).length := by
    rw [List.length_map]
    rcases Nat.eq_zero_or_pos ps.length with h | h
    · exact absurd (List.eq_nil_of_length_eq_zero h) HPN.out
    · exact h
  have hrec := cells_recs (w := w) (ss := ps.map mkS) (N := N) (t := 9) hnp
  have hb1 : Below w.heap.size w (w.alloc (.cells (Lib.cellsOf (ps.map mkS) N) 9)) := (Below.refl _ _).alloc (Nat.le_refl _) _
  have HXX := Lib.hid HX
  clear HX
  obtain ⟨w1, hw1⟩ : ∃ w1, w1 = w.alloc (.cells (Lib.cellsOf (ps.map mkS) N) 9) := ⟨_, rfl⟩
  rw [← hw1] at hrec hb1 HXX
  have HR := Lib.hid hrec
  have hsz1 := hb1.size
  obtain ⟨n, hn⟩ : ∃ n, n = (ps.map mkS).length := ⟨_, rfl⟩
  have HN : Hid (n = ps.length) := Lib.hid (by rw [hn, List.length_map])
  rw [← hn] at HXX
  have hn65 : (n : Int) ≤ 65 := by have := HN.out; have := HPL.out; omega
  obtain ⟨m, m1, m2, m3⟩ := first_stop (fun k => numB (ps.getD k [])) ps.length
  have hmn : m ≤ n := by have := HN.out; omega
  have HA := Lib.hid (all_stopL m1 m2 m3)
  have M2 := Lib.hid m2
  have M3 := Lib.hid m3
  obtain ⟨i1, hi, hz0, hz1, hz2⟩ := info_parts infoI
  have HG := Lib.hid (And.intro hi (And.intro hz0 (And.intro hz1 hz2)))
  clear m1 m2 m3 hi hz0 hz1 hz2 hn hw1 hrec hnp
  go_enter Tryd.func56, Tryd.ntmps56
  go_wp2_with fail
  refine HXX.out.mono ?_
  rintro e w1 ⟨rfl, rfl⟩
  go_wp2
  go_loopw [4, 14] (fun v i wr => ∃ k : Nat, k ≤ m ∧ i = .int .i64 k ∧ Own w1.heap.size wr v ((ps.take k).map numV) ∧ Below w1.heap.size w1 wr) (fun _ i _ => n - (intOf i).toNat)
  case atStart => exact ⟨0, Nat.zero_le _, rfl, Own.nil_ _ _, Below.refl _ _⟩
  case round =>
    obtain ⟨k, hk, rfl, ho, hb⟩ := hrel
    have HO1 := Lib.hid ho
    have hbw := hb1.trans (hb.mono hsz1)
    have hsz := hb.size
    clear ho
    by_cases hlt : k < n
    · obtain ⟨b, o, hbo, hab, hc⟩ := str_part (HR.out.below hb) (k := k) (by rw [← HN.out]; exact hlt)
      cases hbo
      rw [Nat.zero_add] at hc
      have hpl := HPS.out k (by rw [← HN.out]; exact hlt)
      have HT := Lib.hid (take_num (ps := ps) (k := k) (by rw [← HN.out]; exact hlt))
      have hl : ((ps.take k).map numV).length ≤ 65 := by rw [List.length_map, List.length_take]; omega
      have i0 : (0 : Int) ≤ (k : Int) := by omega
      have i1' : (k : Int) < n := by omega
      have HP : Hid (k < m → numB (ps.getD k []) = true) := Lib.hid (M2.out k)
      have HQ : Hid (k = m → numB (ps.getD k []) = false) := Lib.hid (fun e => by subst e; exact M3.out (by rw [← HN.out]; exact hlt))
      generalize (ps.take k).map numV = ts at *
      generalize ps.getD k [] = p at *
      have HNu : Hid (Calls Tryd.prog 68 #[.string (mkS p)] wr fun e w' => e = .returned (.tuple #[.int .i64 (numN p), .bool (numB p)]) ∧ Below wr.heap.size wr w') := Lib.hid (by
        have hl := HLi.out.later hbw
        have h := ReadDecimal_any (mkS p) wr (by rw [mkS_size]; omega) hl.tab hl.errs
        rw [mkS_data] at h
        exact h)
      generalize hps : mkS p = sp at *
      clear hpl hps
      by_cases hkm : k < m
      · have p1 := HP.out hkm
        have hnn := numN_yes p1
        rw [hnn, p1] at HNu
        clear hnn p1 HP HQ
        generalize numV p = x at *
        go_wp2_with fail
        refine HNu.out.mono ?_
        rintro e w2 ⟨rfl, hb2⟩
        have HO2 := Lib.hid (HO1.out.later hb2)
        have hb3 := hb.trans (hb2.mono hb.size)
        have hsz3 := hb3.size
        go_wp2_with (at_builtin; refine wpList_append_own_at _ rfl _ _ 57 rfl w1.heap.size 2 i1 (.int .i64 0) 1 8 Tryd.underlying57 HG.out.1 HG.out.2.1 HG.out.2.2.1 HG.out.2.2.2 rfl (by decide) _ _ _ rfl (HO2.out.later ((Below.refl _ _).alloc (Nat.le_refl _) _)) ⟨w2.heap.size, 0, none⟩ 1 1 [.int .i64 x] rfl rfl (cell_one_new _ _ _) (by intro u hu; simp at hu; subst hu; rfl) (le_max (by omega)) (by omega) (by simp; omega) ?_; intro av aw ah ag an aa)
        have hbe := Below.appended hb3 HO2.out hsz3 ag
        have HO3 := Lib.hid (Own.appended ah)
        clear ah ag an aa
        go_roundw
        case rel => exact ⟨k + 1, by omega, by go_num, by rw [HT.out]; exact HO3.out, hbe⟩
        case measure => simp [intOf]; omega
      · obtain rfl : k = m := by omega
        obtain ⟨rfl, rfl⟩ := HNO.out (by rw [← HI1.out, HA.out, decide_eq_false (show ¬ k = ps.length by rw [← HN.out]; omega)]; rfl)
        have p1 := HQ.out rfl
        have hnn := numN_no p1
        rw [hnn, p1] at HNu
        clear hnn p1 HP HQ HYES HNO
        go_wp2_with fail
        refine HNu.out.mono ?_
        rintro e w2 ⟨rfl, hb2⟩
        go_wp2_with fail
        go_ret2
        exact ⟨_, rfl, Own.nil_ _ _, hbw.trans (hb2.mono hbw.size)⟩
    · have hkn : k = m ∧ k = n := by omega
      have hkl : k = ps.length := by rw [← HN.out]; exact hkn.2
      have hall : ps.all numB = true := by rw [HA.out]; exact decide_eq_true (by omega)
      have HTK : Hid ((ps.take k).map numV = ps.map numV) := Lib.hid (by rw [hkl, List.take_length])
      have HFit := Lib.hid (map_fits (List.all_eq_true.1 hall))
      rw [HTK.out] at HO1
      obtain ⟨AL, cl, rfl, hil, -⟩ := HO1.out.slice
      have hll : ((ps.map numV).length : Int) ≤ 65 := by rw [List.length_map]; omega
      have i1' : ¬ (k : Int) < n := by omega
      have HTx := Lib.hid (ListText_any AL cl (ps.map numV) wr.heap.size wr (by omega) hil (Nat.le_refl _) HFit.out (HLi.out.later hbw).tab)
      have HB := Lib.hid hbw
      rw [hall, Bool.true_and] at HI1
      obtain ⟨X, hX⟩ : ∃ X : ByteArray, X = ⟨(textT (ps.map numV)).toArray⟩ := ⟨_, rfl⟩
      rw [← hX] at HTx
      by_cases hxs : X = s
      · have htl : textT (ps.map numV) = s.data.toList := by rw [← hxs, hX]
        have hrt : readB s.data.toList = true := by rw [← HI1.out]; exact decide_eq_true htl
        obtain ⟨h1, h2⟩ := HYES.out hrt
        have HV1 := Lib.hid h2
        have HR1 : Hid (R = ps.map numV) := Lib.hid (by rw [h1, HI2.out hrt])
        have hdd : (X.toList == s.toList) = true := by rw [beq_iff_eq, hxs]
        clear h1 h2 hrt htl hxs hX hkn hkl hall HTK hil HYES HNO
        generalize ps.map numV = xs at *
        go_wp2_with fail
        refine HTx.out.mono ?_
        rintro e w2 ⟨rfl, hb2⟩
        have HO2 := Lib.hid (HO1.out.later hb2)
        go_wp2_with fail
        go_ret2
        exact ⟨_, by rw [HV1.out]; rfl, by rw [HR1.out]; exact HO2.out.base (fun g h => by have := (World.ownsRow.lt HO2.out g h).1; omega), HB.out.trans (hb2.mono HB.out.size)⟩
      · have hrf : readB s.data.toList = false := by
          rw [← HI1.out]
          exact decide_eq_false (fun e => hxs (by rw [hX, e]))
        obtain ⟨rfl, rfl⟩ := HNO.out hrf
        have hdd : (X.toList == s.toList) = false := toList_ne hxs
        clear hrf hxs hX hkn hkl hall HTK hil HYES HNO
        generalize ps.map numV = xs at *
        go_wp2_with fail
        refine HTx.out.mono ?_
        rintro e w2 ⟨rfl, hb2⟩
        go_wp2_with fail
        go_ret2
        exact ⟨_, rfl, Own.nil_ _ _, HB.out.trans (hb2.mono HB.out.size)⟩
end Go.Proofs.YtemidjejelmdlaaDoor
