/- Proved here: the parts Tab, FireM, TabL of the row's proof, joined by a program. Conditions: as each part says. -/
import Derived.Test.YtejkoicgbgoiaaaGreatFl10
/- Fires: when airways turn round, by the program and by the reference. Conditions: the facts on memory and on lengths that each theorem names. -/
namespace Go.Proofs.YtejkoicgbgoiaaaGreat
open Go.RowKit
open Pl
/-! ### Lengths -/
theorem passK_len {rs dr : List Int} {fs : List Fa} : ∀ {ms : List (List Int)} {fl fl' : List Int}, passK rs dr fs ms fl = some fl' → fl'.length = fl.length
  | [], fl, fl', h => by injection h with h; rw [h]
  | m :: ms, fl, fl', h => by
    unfold passK at h
    split at h
    · have := passK_len h
      rw [this]; exact addK_length _ _ _ _
    · cases h
theorem solveR_len {rs dr : List Int} {fs : List Fa} {ms : List (List Int)} {tol : Int} : ∀ (n : Nat) {fl : List Int}, (solveR rs dr fs ms tol n fl).2.2 = 0 → (solveR rs dr fs ms tol n fl).1.length = fl.length
  | 0, fl, h => by
    rw [solveR_zero] at h ⊢
    split at h
    · rename_i hc; rw [if_pos hc]
    · cases h
  | n + 1, fl, h => by
    by_cases hc : worstL (errsL rs (pushF fs fl dr) fl ms) ≤ tol
    · rw [solveR_yes hc]
    · cases hp : passK rs dr fs ms fl with
      | none => rw [solveR_bad hc hp] at h; cases h
      | some fl' =>
        rw [solveR_go hc hp] at h ⊢
        rw [solveR_len n h, passK_len hp]
theorem solveF_len {J : Int} {xs : List Aw} {rs : List Int} {fs : List Fa} {dr st : List Int} {tol rds : Int} (h : (solveF J xs rs fs dr st tol rds).2.2 = 0) : (solveF J xs rs fs dr st tol rds).1.length = xs.length := by
  unfold solveF at h ⊢
  split at h
  · rename_i h1
    split at h
    · rename_i h2
      split at h
      · rename_i h3
        split at h
        · rename_i h4
          rw [if_pos h1, if_pos h2, if_pos h3, if_pos h4, solveR_len _ h]
          unfold sysB at h3
          simp only [Bool.and_eq_true] at h3
          exact (lstN_iff.1 h3.1.2.2).1
        · cases h
      · cases h
    · cases h
  · cases h
theorem fireF_len {J : Int} {xs : List Aw} {rs : List Int} {fs : List Fa} {dr st : List Int} {tol rds aw am : Int} (h : (fireF J xs rs fs dr st tol rds aw am).2.2 = 0) : (fireF J xs rs fs dr st tol rds aw am).1.length = xs.length := by
  by_cases hb : baseF J xs rs fs dr st tol rds aw am = 0
  · have e : fireF J xs rs fs dr st tol rds aw am = solveF J xs rs fs (moreF dr aw am) st tol rds := by unfold fireF; rw [if_pos hb]
    rw [e] at h ⊢
    exact solveF_len h
  · rw [fireF_bad rfl hb] at h
    exact absurd h hb
/-! ### The table -/
/-- Two numbers of opposite signs. -/
def opsB (a b : Int) : Bool := (decide (0 < a) && decide (b < 0)) || (decide (a < 0) && decide (0 < b))
def turnK (be af : List Int) (n : Int) (tb : List Int) : Nat → List Int
  | 0 => tb
  | k + 1 => if (turnK be af n tb k).getD k 0 = 0 ∧ opsB (be.getD k 0) (af.getD k 0) = true then (turnK be af n tb k).set k n else turnK be af n tb k
theorem turnK_length (be af : List Int) (n : Int) (tb : List Int) : ∀ k, (turnK be af n tb k).length = tb.length
  | 0 => rfl
  | k + 1 => by
    unfold turnK
    split
    · rw [List.length_set]; exact turnK_length be af n tb k
    · exact turnK_length be af n tb k
theorem turnK_bd {be af : List Int} {n : Int} {tb : List Int} (hn : 0 ≤ n ∧ n ≤ 100) (ht : ∀ i, 0 ≤ tb.getD i 0 ∧ tb.getD i 0 ≤ 100) : ∀ k i, 0 ≤ (turnK be af n tb k).getD i 0 ∧ (turnK be af n tb k).getD i 0 ≤ 100
  | 0, i => ht i
  | k + 1, i => by
    have ih := turnK_bd (be := be) (af := af) hn ht k i
    unfold turnK
    split
    · by_cases hk : k < (turnK be af n tb k).length
      · rw [getD_set _ _ _ _ hk]; split
        · exact hn
        · exact ih
      · rw [List.set_eq_of_length_le (by omega)]; exact ih
    · exact ih
noncomputable def tabR (fire : Int → List Int × Int × Int) (be : List Int) : Nat → Int → List Int → List Int × Int
  | 0, _, tb => (tb, 0)
  | r + 1, n, tb => if (fire n).2.2 = 0 then tabR fire be r (n + 1) (turnK be (fire n).1 n tb tb.length) else ([], (fire n).2.2)
/-- When airways turn round: a number for each airway, and a code. -/
noncomputable def tableF (J : Int) (xs : List Aw) (rs : List Int) (fs : List Fa) (dr st : List Int) (tol rds aw sp ct : Int) : List Int × Int :=
  if (mineB J xs && fansB fs) = true then
    if (inB sp 1 100000 && (inB ct 1 20 && decide (sp * ct ≤ 100000))) = true then
      if (fireF J xs rs fs dr st tol rds aw 0).2.2 = 0 then tabR (fun n => fireF J xs rs fs dr st tol rds aw (n * sp)) (fireF J xs rs fs dr st tol rds aw 0).1 ct.toNat 1 (List.replicate xs.length 0)
      else ([], (fireF J xs rs fs dr st tol rds aw 0).2.2)
    else ([], 2)
  else ([], 1)
theorem tabR_len {fire : Int → List Int × Int × Int} {be : List Int} : ∀ (r : Nat) (n : Int) (tb : List Int), (tabR fire be r n tb).1.length ≤ tb.length
  | 0, _, tb => Nat.le_refl _
  | r + 1, n, tb => by
    unfold tabR
    split
    · exact Nat.le_trans (tabR_len r _ _) (by rw [turnK_length]; exact Nat.le_refl _)
    · simp
theorem tableF_len (J : Int) (xs : List Aw) (rs : List Int) (fs : List Fa) (dr st : List Int) (tol rds aw sp ct : Int) : (tableF J xs rs fs dr st tol rds aw sp ct).1.length ≤ xs.length := by
  unfold tableF
  split
  · split
    · split
      · exact Nat.le_trans (tabR_len _ _ _) (by rw [List.length_replicate]; exact Nat.le_refl _)
      · simp
    · simp
  · simp
theorem sp_mul {n sp ct : Int} (h1 : 1 ≤ n) (h2 : n ≤ ct) (h3 : 1 ≤ sp) (h4 : sp * ct ≤ 100000) : 0 ≤ n * sp ∧ n * sp ≤ 100000 := by
  have a := mul_ge (a := n) (b := sp) (by omega) (by omega)
  have b := mul_le (a := n) (A := ct) (b := sp) (B := sp) (by omega) h2 (by omega) (Int.le_refl _)
  rw [Int.mul_comm ct sp] at b
  omega
theorem oppo_i (a b : Int) (w : World) : Calls Tryz.prog 44 #[.int .i64 a, .int .i64 b] w fun e w' => e = .returned (.bool (opsB a b)) ∧ w = w' := by
  unfold opsB
  rcases Int.lt_trichotomy a 0 with h | rfl | h <;> rcases Int.lt_trichotomy b 0 with g | rfl | g
  all_goals
    go_enter Tryz.func44, Tryz.ntmps44
    go_wp2
    go_ret
    exact ⟨by simp <;> omega, rfl⟩
theorem oppo_s (a b : Int) (w : World) : Calls Tryz.prog 68 #[.int .i64 a, .int .i64 b] w fun e w' => e = .returned (.bool (opsB a b)) ∧ w = w' := by
  unfold opsB
  rcases Int.lt_trichotomy a 0 with h | rfl | h <;> rcases Int.lt_trichotomy b 0 with g | rfl | g
  all_goals
    go_enter Tryz.func68, Tryz.ntmps68
    go_wp2
    go_ret
    exact ⟨by simp <;> omega, rfl⟩
set_option maxRecDepth 100000 in
set_option maxHeartbeats 6400000 in
theorem ReversalTable_i (J : Int) (A : Option Addr) (cp : Nat) (xs : List Aw) (AR : Option Addr) (cr : Nat) (rs : List Int) (AF : Option Addr) (cf : Nat) (fs : List Fa) (AD : Option Addr) (cd : Nat) (dr : List Int) (AS : Option Addr) (cs : Nat) (st : List Int) (tol rds : Int) (aw sp ct : Int) (w : World) (hxl : (xs.length : Int) ≤ 1048576) (hrl : rs.length ≤ 1048576) (hfl : fs.length ≤ 1048576) (hdl : dr.length ≤ 1048576) (hsl : st.length ≤ 1048576) (fX : FitsA xs) (fR : Fits rs) (fF : FitsF fs) (lF : FansLen fs) (fD : Fits dr) (fS : Fits st) (hI : Recs encA 7 w.heap.size w A xs) (hR : Ints w.heap.size w AR rs) (hF : Fns w.heap.size w AF fs) (hD : Ints w.heap.size w AD dr) (hS : Ints w.heap.size w AS st) :
    Calls Tryz.prog 18 #[.agg #[.int .i64 J, .slice A xs.length cp], .slice AR rs.length cr, .slice AF fs.length cf, .slice AD dr.length cd, .slice AS st.length cs, .int .i64 tol, .int .i64 rds, .int .i64 aw, .int .i64 sp, .int .i64 ct] w fun e w' => ∃ u, e = .returned (.tuple #[u, .int .i64 (tableF J xs rs fs dr st tol rds aw sp ct).2]) ∧ Own w.heap.size w' u (tableF J xs rs fs dr st tol rds aw sp ct).1 ∧ Below w.heap.size w w' := by
  obtain ⟨R, hRR⟩ : ∃ R, R = tableF J xs rs fs dr st tol rds aw sp ct := ⟨_, rfl⟩
  rw [← hRR]
  have HR := Lib.hid hRR
  have C1 := Lib.hid (fun (W : World) (hb : Below w.heap.size w W) => ValidMine_i J A cp xs w.heap.size W (by omega) fX (hI.below hb) hb.size)
  have C2 := Lib.hid (fun (W : World) (hb : Below w.heap.size w W) => ValidFans_i AF cf fs w.heap.size W (by omega) fF lF (hF.below hb) hb.size)
  have CF := Lib.hid (fun (am : Int) (W : World) (hb : Below w.heap.size w W) => FlowsWithFire_i J A cp xs AR cr rs AF cf fs AD cd dr AS cs st tol rds aw am W hxl hrl hfl hdl hsl fX fR fF lF fD fS ((hI.below hb).more hb.size) ((hR.below hb).more hb.size) ((hF.below hb).more hb.size) ((hD.below hb).more hb.size) ((hS.below hb).more hb.size))
  have be0 : Below w.heap.size w (w.alloc (.cells #[.int .i64 J, .slice A xs.length cp] 33)) := by go_grown
  have k0 : ((w.alloc (.cells #[.int .i64 J, .slice A xs.length cp] 33))).cell? ⟨w.heap.size, 0, none⟩ = some (.int .i64 J) := by go_simp
  have k1 : ((w.alloc (.cells #[.int .i64 J, .slice A xs.length cp] 33))).cell? ⟨w.heap.size, 1, none⟩ = some (.slice A xs.length cp) := by go_simp
  obtain ⟨i0, hi, hz0, hz1, hz2⟩ := info_parts infoI
  clear hI hR hF hD hS fX fR fF lF fD fS hRR
  go_enter Tryz.func18, Tryz.ntmps18
  go_wp2_with fail
  generalize (w.alloc (.cells #[.int .i64 J, .slice A xs.length cp] 33)) = w0 at *
  refine (C1.out _ be0).mono ?_
  rintro e w1 ⟨rfl, hb1⟩
  have k01 := cell_later hb1 k0
  have k11 := cell_later hb1 k1
  have be1 := be0.trans (hb1.mono be0.size)
  cases h1 : mineB J xs
  · have HG : Hid (R = ([], 1)) := Lib.hid (by rw [HR.out]; unfold tableF; rw [h1]; rfl)
    clear h1
    go_wp2_with fail
    go_ret2
    refine ⟨.slice none 0 0, ret_vi (by rw [HG.out]), ?_, be1⟩
    rw [HG.out]; exact Own.nil_ _ _
  have H1 := Lib.hid h1
  clear h1 k0 k1 hb1
  go_wp2_with fail
  refine (C2.out _ be1).mono ?_
  rintro e w2 ⟨rfl, hb2⟩
  have k02 := cell_later hb2 k01
  have k12 := cell_later hb2 k11
  have be2 := be1.trans (hb2.mono be1.size)
  cases h2 : fansB fs
  · have HG : Hid (R = ([], 1)) := Lib.hid (by rw [HR.out]; unfold tableF; rw [H1.out, h2]; rfl)
    clear h2
    go_wp2_with fail
    go_ret2
    refine ⟨.slice none 0 0, ret_vi (by rw [HG.out]), ?_, be2⟩
    rw [HG.out]; exact Own.nil_ _ _
  have H2 := Lib.hid h2
  clear h2 k01 k11 hb2
  cases h3 : inB sp 1 100000
  · have HG : Hid (R = ([], 2)) := Lib.hid (by rw [HR.out]; unfold tableF; rw [H1.out, H2.out, h3]; rfl)
    go_wp2_with (go_at_call 43; refine (within_any _ _ _ _).mono ?_; rintro e w' ⟨rfl, rfl⟩)
    go_ret2
    refine ⟨.slice none 0 0, ret_vi (by rw [HG.out]), ?_, be2⟩
    rw [HG.out]; exact Own.nil_ _ _
  obtain ⟨sp0, sp1⟩ := inB_iff.1 h3
  cases h4 : inB ct 1 20
  · have HG : Hid (R = ([], 2)) := Lib.hid (by rw [HR.out]; unfold tableF; rw [H1.out, H2.out, h3, h4]; rfl)
    go_wp2_with (go_at_call 43; refine (within_any _ _ _ _).mono ?_; rintro e w' ⟨rfl, rfl⟩)
    go_ret2
    refine ⟨.slice none 0 0, ret_vi (by rw [HG.out]), ?_, be2⟩
    rw [HG.out]; exact Own.nil_ _ _
  obtain ⟨ct0, ct1⟩ := inB_iff.1 h4
  have hpm := mul_le (a := sp) (b := ct) (A := 100000) (B := 20) (by omega) sp1 (by omega) ct1
  have hpg := mul_ge (a := sp) (b := ct) (by omega) (by omega)
  by_cases h5 : sp * ct ≤ 100000
  rotate_left
  · have HG : Hid (R = ([], 2)) := Lib.hid (by rw [HR.out]; unfold tableF; rw [H1.out, H2.out, h3, h4, decide_eq_false h5]; rfl)
    go_wp2_with (go_at_call 43; refine (within_any _ _ _ _).mono ?_; rintro e w' ⟨rfl, rfl⟩)
    go_ret2
    refine ⟨.slice none 0 0, ret_vi (by rw [HG.out]), ?_, be2⟩
    rw [HG.out]; exact Own.nil_ _ _
  have HRT : Hid (R = if (fireF J xs rs fs dr st tol rds aw 0).2.2 = 0 then tabR (fun n => fireF J xs rs fs dr st tol rds aw (n * sp)) (fireF J xs rs fs dr st tol rds aw 0).1 ct.toNat 1 (List.replicate xs.length 0) else ([], (fireF J xs rs fs dr st tol rds aw 0).2.2)) := Lib.hid (by rw [HR.out]; unfold tableF; rw [H1.out, H2.out, h3, h4, decide_eq_true h5]; rfl)
  have hx24 : xs.length ≤ 24 := by have := (mineB_bd H1.out).2.1; omega
  go_wp2_with (go_at_call 43; refine (within_any _ _ _ _).mono ?_; rintro e w' ⟨rfl, rfl⟩)
  clear h3 h4
  refine (CF.out 0 _ be2).mono ?_
  rintro e w3 ⟨u3, rfl, ho3, hb3⟩
  have k03 := cell_later hb3 k02
  have k13 := cell_later hb3 k12
  have be3 := be2.trans (hb3.mono be2.size)
  have HLB := Lib.hid (fun h => fireF_len (J := J) (xs := xs) (rs := rs) (fs := fs) (dr := dr) (st := st) (tol := tol) (rds := rds) (aw := aw) (am := 0) h)
  generalize fireF J xs rs fs dr st tol rds aw 0 = f0 at *
  obtain ⟨bf, er, c0⟩ := f0
  dsimp only at *
  by_cases hc0 : c0 = 0
  rotate_left
  · have HG : Hid (R = ([], c0)) := Lib.hid (by rw [HRT.out, if_neg hc0])
    have hcb : (c0 != 0) = true := by simpa using hc0
    clear hc0 k02 k12
    go_wp2_with fail
    go_ret2
    refine ⟨.slice none 0 0, ret_vi (by rw [HG.out]), ?_, be3⟩
    rw [HG.out]; exact Own.nil_ _ _
  subst hc0
  have hbl := HLB.out rfl
  obtain ⟨AB, cb, hv, -, -⟩ := ho3.slice
  rw [hbl] at hv
  subst hv
  have HG : Hid (R = tabR (fun n => fireF J xs rs fs dr st tol rds aw (n * sp)) bf ct.toNat 1 (List.replicate xs.length 0)) := Lib.hid (by rw [HRT.out, if_pos rfl])
  have JB := Lib.hid ho3.ints
  have HBL := Lib.hid hbl
  have hbb : i0.bytes * xs.length ≤ 281474976710656 := by rw [hz2]; omega
  have hmx : xs.length ≤ maxLen := le_max (by omega)
  have be3' := Lib.hid be3
  clear ho3 hbl HLB HRT HR k02 k12
  go_wp2_with (at_make; refine wpList_make_full _ rfl (.tmp 74) (.tmp 74) 25 rfl w3.heap.size 2 i0 (.int .i64 0) 1 Tryz.underlying25 hi hz0 hz1 .i64 .i64 (xs.length : Int) (xs.length : Int) xs.length rfl rfl rfl rfl hbb hmx (Nat.le_refl _) ?_; intro w4 hown hgr)
  have hbe4 : Below w3.heap.size w3 w4 := (Below.refl _ _).grown hgr (Nat.le_refl _) (fun k hk => by cases hk)
  have HO : Hid (w4.ownsRow w3.heap.size 2 1 (.slice (some ⟨w3.heap.size, 0, none⟩) xs.length xs.length) xs.length (vals (List.replicate xs.length 0))) := Lib.hid (by
    have e : (madeCells (Value.int .i64 0).cells (xs.length * 1)).toList = vals (List.replicate xs.length (0 : Int)) := by
      unfold vals
      rw [Nat.mul_one, List.map_replicate]
      exact toList_madeCells_one _ _
    rw [e] at hown
    exact hown)
  have hg34 : w3.heap.size < w4.heap.size := (World.ownsRow.lt HO.out _ rfl).2
  clear hown hgr hbb hmx hi hz0 hz1 hz2
  go_wp2_with fail
  go_loopw [26] (fun ss wr => ∃ (r : Nat) (n : Int) (tb : List Int), ss = .int .i64 n ∧ 1 ≤ n ∧ n + r = ct + 1 ∧ Below w3.heap.size w3 wr ∧ wr.ownsRow w3.heap.size 2 1 (.slice (some ⟨w3.heap.size, 0, none⟩) xs.length xs.length) xs.length (vals tb) ∧ tb.length = xs.length ∧ R = tabR (fun n => fireF J xs rs fs dr st tol rds aw (n * sp)) bf r n tb) (fun ss _ => (ct + 1 - intOf ss).toNat)
  case atStart => exact ⟨ct.toNat, 1, _, rfl, by omega, by omega, hbe4, HO.out, by simp, HG.out⟩
  case round =>
    clear HG HO
    obtain ⟨r, n, tb, rfl, n1, hnr, hbw, hrow, htl, hR⟩ := hrel
    have k0r := cell_later hbw k03
    have k1r := cell_later hbw k13
    have HTL := Lib.hid htl
    have HROW := Lib.hid hrow
    have HRr := Lib.hid hR
    have bew := be3'.out.trans (hbw.mono be3'.out.size)
    have hgw : w3.heap.size < wr.heap.size := (World.ownsRow.lt hrow _ rfl).2
    clear hrow htl hR
    by_cases hnc : n ≤ ct
    rotate_left
    · obtain rfl : r = 0 := by omega
      have HZ : Hid (R = (tb, 0)) := Lib.hid HRr.out
      go_wp2_with fail
      go_ret2
      refine ⟨_, ret_vi (by rw [HZ.out]), ?_, bew⟩
      rw [HZ.out]
      exact Own.of_row HROW.out HTL.out be3'.out.size
    obtain ⟨r', rfl⟩ : ∃ r', r = r' + 1 := ⟨r - 1, by omega⟩
    have hm := sp_mul n1 hnc sp0 h5
    go_wp2_with fail
    refine (CF.out (n * sp) _ bew).mono ?_
    rintro e w5 ⟨u5, rfl, ho5, hb5⟩
    have HLA := Lib.hid (fun h => fireF_len (J := J) (xs := xs) (rs := rs) (fs := fs) (dr := dr) (st := st) (tol := tol) (rds := rds) (aw := aw) (am := n * sp) h)
    have HRS : Hid (R = if (fireF J xs rs fs dr st tol rds aw (n * sp)).2.2 = 0 then tabR (fun n => fireF J xs rs fs dr st tol rds aw (n * sp)) bf r' (n + 1) (turnK bf (fireF J xs rs fs dr st tol rds aw (n * sp)).1 n tb tb.length) else ([], (fireF J xs rs fs dr st tol rds aw (n * sp)).2.2)) := Lib.hid HRr.out
    have bew5 := bew.trans (hb5.mono bew.size)
    have hbw5 := hbw.trans (hb5.mono hbw.size)
    clear HRr
    generalize fireF J xs rs fs dr st tol rds aw (n * sp) = f5 at *
    obtain ⟨af, er5, c5⟩ := f5
    dsimp only at *
    by_cases hc5 : c5 = 0
    rotate_left
    · have HG : Hid (R = ([], c5)) := Lib.hid (by rw [HRS.out, if_neg hc5])
      have hcb : (c5 != 0) = true := by simpa using hc5
      clear hc5
      go_wp2_with fail
      go_ret2
      refine ⟨.slice none 0 0, ret_vi (by rw [HG.out]), ?_, bew5⟩
      rw [HG.out]; exact Own.nil_ _ _
    subst hc5
    have hal := HLA.out rfl
    obtain ⟨AA, ca, hv, -, hat⟩ := ho5.slice
    rw [hal] at hv
    subst hv
    have HAL := Lib.hid hal
    have JA := Lib.hid ho5.ints
    have HAT := Lib.hid (fun ad (h : AA = some ad) => (hat ad h).2.1)
    have HG : Hid (R = tabR (fun n => fireF J xs rs fs dr st tol rds aw (n * sp)) bf r' (n + 1) (turnK bf af n tb xs.length)) := Lib.hid (by rw [HRS.out, if_pos rfl, HTL.out])
    have HROW5 := Lib.hid (row_on HROW.out hb5)
    clear ho5 hat hal HLA HRS k0r k1r
    go_wp2_with fail
    go_loopw [102] (fun ii wx => ∃ k : Nat, k ≤ xs.length ∧ ii = .int .i64 k ∧ wx.ownsRow w3.heap.size 2 1 (.slice (some ⟨w3.heap.size, 0, none⟩) xs.length xs.length) xs.length (vals (turnK bf af n tb k)) ∧ w5.grownBy wx (some w3.heap.size)) (fun ii _ => xs.length - (intOf ii).toNat)
    case atStart => exact ⟨0, Nat.zero_le _, rfl, HROW5.out, World.grownBy.refl _ _⟩
    case round =>
      obtain ⟨k, hk, rfl, hr, hg⟩ := hrel
      have hbx : Below w3.heap.size w3 wr := hbw5.grown hg hbw5.size (fun j hj => by injection hj with hj; omega)
      have HR5 := Lib.hid hr
      have HGX := Lib.hid hg
      by_cases hlt : k < xs.length
      · have hlen : (turnK bf af n tb k).length = xs.length := (turnK_length _ _ _ _ _).trans HTL.out
        have hct := row_cell hr hlen hlt
        have hft := row_free hr k
        obtain ⟨adb, rfl, hbb, hcb⟩ := (JB.out.below hbx).atD (k := k) (by have := HBL.out; omega)
        obtain ⟨ada, rfl, haa, hca0⟩ := JA.out.atD (k := k) (by have := HAL.out; omega)
        have hca := hg.cell hca0 (fun e => by rw [block_add] at e; injection e with e; have := HAT.out ada rfl; omega)
        have HST : Hid (turnK bf af n tb (k + 1) = if (turnK bf af n tb k).getD k 0 = 0 ∧ opsB (bf.getD k 0) (af.getD k 0) = true then (turnK bf af n tb k).set k n else turnK bf af n tb k) := Lib.hid rfl
        have HOP := Lib.hid (fun W => oppo_i (bf.getD k 0) (af.getD k 0) W)
        clear hr hg hlen hca0
        generalize turnK bf af n tb k = D at *
        generalize D.getD k 0 = x at *
        generalize bf.getD k 0 = y at *
        generalize af.getD k 0 = z at *
        generalize opsB y z = ob at *
        have j0 : (0 : Int) ≤ (k : Int) := by omega
        have j1 : (k : Int) < xs.length := by omega
        by_cases hx0 : x = 0
        · subst hx0
          cases ob
          · have HS2 := Lib.hid (show turnK bf af n tb (k + 1) = D by rw [HST.out, if_neg (by simp)])
            go_wp2_with (go_at_call 44; refine (HOP.out _).mono ?_; rintro e w' ⟨rfl, rfl⟩)
            go_roundw
            case rel => exact ⟨k + 1, by omega, by go_num, by rw [HS2.out]; exact HR5.out, HGX.out⟩
            case measure => simp [intOf]; omega
          · have HS2 := Lib.hid (show turnK bf af n tb (k + 1) = D.set k n by rw [HST.out, if_pos ⟨rfl, rfl⟩])
            go_wp2_with (go_at_call 44; refine (HOP.out _).mono ?_; rintro e w' ⟨rfl, rfl⟩)
            go_roundw
            case rel =>
              obtain ⟨r1, r2⟩ := World.ownsRow.stored HR5.out k (.int .i64 n)
              rw [vals_set] at r1
              exact ⟨k + 1, by omega, by go_num, by rw [HS2.out]; exact r1, HGX.out.trans r2⟩
            case measure => simp [intOf]; omega
        · have HS2 := Lib.hid (show turnK bf af n tb (k + 1) = D by rw [HST.out, if_neg (fun h => hx0 h.1)])
          have hxb : (x == 0) = false := by simpa using hx0
          clear hx0
          go_wp2_with (go_at_call 44; refine (HOP.out _).mono ?_; rintro e w' ⟨rfl, rfl⟩)
          go_roundw
          case rel => exact ⟨k + 1, by omega, by go_num, by rw [HS2.out]; exact HR5.out, HGX.out⟩
          case measure => simp [intOf]; omega
      · obtain rfl : k = xs.length := by omega
        clear hr hg
        go_wp2_with fail
        go_roundw
        case rel => exact ⟨r', n + 1, _, rfl, by omega, by omega, hbx, HR5.out, (turnK_length _ _ _ _ _).trans HTL.out, HG.out⟩
        case measure => simp [intOf]; omega
theorem baseF_one {J : Int} {xs : List Aw} {rs : List Int} {fs : List Fa} {dr st : List Int} {tol rds aw am : Int} : baseF J xs rs fs dr st tol rds aw am = 1 ↔ (mineB J xs && fansB fs) = false := by
  unfold baseF
  cases (mineB J xs && fansB fs)
  · simp
  · simp only [if_true]
    split
    · split <;> simp
    · simp
set_option maxRecDepth 100000 in
set_option maxHeartbeats 6400000 in
theorem l18Table_any (bm om : Nat) (J : Int) (A : Option Addr) (cp : Nat) (xs : List Aw) (AR : Option Addr) (cr : Nat) (rs : List Int) (AF : Option Addr) (cf : Nat) (fs : List Fa) (AD : Option Addr) (cd : Nat) (dr : List Int) (AS : Option Addr) (cs : Nat) (st : List Int) (tol rds : Int) (aw sp ct : Int) (w : World) (hxl : (xs.length : Int) ≤ 1048576) (hrl : rs.length ≤ 1048576) (hfl : fs.length ≤ 1048576) (hdl : dr.length ≤ 1048576) (hsl : st.length ≤ 1048576) (fX : FitsA xs) (fF : FitsF fs) (lF : FansLen fs) (hI : Recs encA 7 w.heap.size w A xs) (hR : Ints w.heap.size w AR rs) (hF : Fns w.heap.size w AF fs) (hD : Ints w.heap.size w AD dr) (hS : Ints w.heap.size w AS st)
    (m0 : w.cell? ⟨bm, om, none⟩ = some (.int .i64 J)) (mm : w.cell? ⟨bm, om + 1, none⟩ = some (.slice A xs.length cp)) :
    Calls Tryz.prog 36 #[.pointer (some ⟨bm, om, none⟩), .slice AR rs.length cr, .slice AF fs.length cf, .slice AD dr.length cd, .slice AS st.length cs, .int .i64 tol, .int .i64 rds, .int .i64 aw, .int .i64 sp, .int .i64 ct] w fun e w' => ∃ u, e = .returned (.tuple #[u, .int .i64 (tableF J xs rs fs dr st tol rds aw sp ct).2]) ∧ Own w.heap.size w' u (tableF J xs rs fs dr st tol rds aw sp ct).1 ∧ Below w.heap.size w w' := by
  obtain ⟨R, hRR⟩ : ∃ R, R = tableF J xs rs fs dr st tol rds aw sp ct := ⟨_, rfl⟩
  rw [← hRR]
  have HR := Lib.hid hRR
  have CB := Lib.hid (l18Base_any bm om J A cp xs AR cr rs AF cf fs AD cd dr AS cs st tol rds aw 0 w.heap.size w hxl hrl hfl hdl hsl fX fF lF hI hR hF hD hS (Nat.le_refl _) m0 mm)
  have CF := Lib.hid (fun (am : Int) (W : World) (hb : Below w.heap.size w W) => l18Fire_any bm om J A cp xs AR cr rs AF cf fs AD cd dr AS cs st tol rds aw am W hxl hrl hfl hdl hsl fX fF lF ((hI.below hb).more hb.size) ((hR.below hb).more hb.size) ((hF.below hb).more hb.size) ((hD.below hb).more hb.size) ((hS.below hb).more hb.size) (cell_later hb m0) (cell_later hb mm))
  have hbmw : bm < w.heap.size := World.block_lt_of_cell? _ _ m0
  obtain ⟨i0, hi, hz0, hz1, hz2⟩ := info_parts infoI
  clear hI hR hF hD hS fX fF lF hRR m0 mm
  go_enter Tryz.func36, Tryz.ntmps36
  go_wp2_with fail
  refine CB.out.mono ?_
  rintro e w1 ⟨rfl, d1, rfl⟩
  have be2 := below_drewN (Below.refl w.heap.size w) d1
  cases h1 : (mineB J xs && fansB fs)
  · have HG : Hid (R = ([], 1)) := Lib.hid (by rw [HR.out]; unfold tableF; rw [h1]; rfl)
    rw [baseF_one.2 h1]
    clear h1
    go_wp2_with fail
    go_ret2
    refine ⟨.slice none 0 0, ret_vi (by rw [HG.out]), ?_, be2⟩
    rw [HG.out]; exact Own.nil_ _ _
  have H1 := Lib.hid h1
  have hx24 : xs.length ≤ 24 := by
    have h := h1
    rw [Bool.and_eq_true] at h
    have := (mineB_bd h.1).2.1; omega
  have hnb : (baseF J xs rs fs dr st tol rds aw 0 == 1) = false := by
    rw [beq_eq_false_iff_ne]
    intro h
    rw [baseF_one.1 h] at h1
    cases h1
  clear h1 CB
  generalize baseF J xs rs fs dr st tol rds aw 0 = bc at *
  cases h3 : inB sp 1 100000
  · have HG : Hid (R = ([], 2)) := Lib.hid (by rw [HR.out]; unfold tableF; rw [H1.out, h3]; rfl)
    go_wp2_with (go_at_call 67; refine (l00In_any _ _ _ _).mono ?_; rintro e w' ⟨rfl, rfl⟩)
    go_ret2
    refine ⟨.slice none 0 0, ret_vi (by rw [HG.out]), ?_, be2⟩
    rw [HG.out]; exact Own.nil_ _ _
  obtain ⟨sp0, sp1⟩ := inB_iff.1 h3
  cases h4 : inB ct 1 20
  · have HG : Hid (R = ([], 2)) := Lib.hid (by rw [HR.out]; unfold tableF; rw [H1.out, h3, h4]; rfl)
    go_wp2_with (go_at_call 67; refine (l00In_any _ _ _ _).mono ?_; rintro e w' ⟨rfl, rfl⟩)
    go_ret2
    refine ⟨.slice none 0 0, ret_vi (by rw [HG.out]), ?_, be2⟩
    rw [HG.out]; exact Own.nil_ _ _
  obtain ⟨ct0, ct1⟩ := inB_iff.1 h4
  have hpm := mul_le (a := sp) (b := ct) (A := 100000) (B := 20) (by omega) sp1 (by omega) ct1
  have hpg := mul_ge (a := sp) (b := ct) (by omega) (by omega)
  by_cases h5 : sp * ct ≤ 100000
  rotate_left
  · have HG : Hid (R = ([], 2)) := Lib.hid (by rw [HR.out]; unfold tableF; rw [H1.out, h3, h4, decide_eq_false h5]; rfl)
    go_wp2_with (go_at_call 67; refine (l00In_any _ _ _ _).mono ?_; rintro e w' ⟨rfl, rfl⟩)
    go_ret2
    refine ⟨.slice none 0 0, ret_vi (by rw [HG.out]), ?_, be2⟩
    rw [HG.out]; exact Own.nil_ _ _
  have HRT : Hid (R = if (fireF J xs rs fs dr st tol rds aw 0).2.2 = 0 then tabR (fun n => fireF J xs rs fs dr st tol rds aw (n * sp)) (fireF J xs rs fs dr st tol rds aw 0).1 ct.toNat 1 (List.replicate xs.length 0) else ([], (fireF J xs rs fs dr st tol rds aw 0).2.2)) := Lib.hid (by rw [HR.out]; unfold tableF; rw [H1.out, h3, h4, decide_eq_true h5]; rfl)
  go_wp2_with (go_at_call 67; refine (l00In_any _ _ _ _).mono ?_; rintro e w' ⟨rfl, rfl⟩)
  clear h3 h4 hnb
  refine (CF.out 0 _ be2).mono ?_
  rintro e w3 ⟨u3, rfl, ho3, hb3⟩
  have be3 := be2.trans (hb3.mono be2.size)
  have HLB := Lib.hid (fun h => fireF_len (J := J) (xs := xs) (rs := rs) (fs := fs) (dr := dr) (st := st) (tol := tol) (rds := rds) (aw := aw) (am := 0) h)
  generalize fireF J xs rs fs dr st tol rds aw 0 = f0 at *
  obtain ⟨bf, er, c0⟩ := f0
  dsimp only at *
  by_cases hc0 : c0 = 0
  rotate_left
  · have HG : Hid (R = ([], c0)) := Lib.hid (by rw [HRT.out, if_neg hc0])
    have hcb : (c0 != 0) = true := by simpa using hc0
    clear hc0
    go_wp2_with fail
    go_ret2
    refine ⟨.slice none 0 0, ret_vi (by rw [HG.out]), ?_, be3⟩
    rw [HG.out]; exact Own.nil_ _ _
  subst hc0
  have hbl := HLB.out rfl
  obtain ⟨AB, cb, hv, -, -⟩ := ho3.slice
  rw [hbl] at hv
  subst hv
  have HG : Hid (R = tabR (fun n => fireF J xs rs fs dr st tol rds aw (n * sp)) bf ct.toNat 1 (List.replicate xs.length 0)) := Lib.hid (by rw [HRT.out, if_pos rfl])
  have JB := Lib.hid ho3.ints
  have HBL := Lib.hid hbl
  have hbb : i0.bytes * xs.length ≤ 281474976710656 := by rw [hz2]; omega
  have hmx : xs.length ≤ maxLen := le_max (by omega)
  have be3' := Lib.hid be3
  clear ho3 hbl HLB HRT HR
  go_wp2_with (at_make; refine wpList_make_full _ rfl (.tmp 75) (.tmp 75) 25 rfl w3.heap.size 2 i0 (.int .i64 0) 1 Tryz.underlying25 hi hz0 hz1 .i64 .i64 (xs.length : Int) (xs.length : Int) xs.length rfl rfl rfl rfl hbb hmx (Nat.le_refl _) ?_; intro w4 hown hgr)
  have hbe4 : Below w3.heap.size w3 w4 := (Below.refl _ _).grown hgr (Nat.le_refl _) (fun k hk => by cases hk)
  have HO : Hid (w4.ownsRow w3.heap.size 2 1 (.slice (some ⟨w3.heap.size, 0, none⟩) xs.length xs.length) xs.length (vals (List.replicate xs.length 0))) := Lib.hid (by
    have e : (madeCells (Value.int .i64 0).cells (xs.length * 1)).toList = vals (List.replicate xs.length (0 : Int)) := by
      unfold vals
      rw [Nat.mul_one, List.map_replicate]
      exact toList_madeCells_one _ _
    rw [e] at hown
    exact hown)
  have hg34 : w3.heap.size < w4.heap.size := (World.ownsRow.lt HO.out _ rfl).2
  clear hown hgr hbb hmx hi hz0 hz1 hz2
  go_wp2_with fail
  go_loopw [27] (fun ss wr => ∃ (r : Nat) (n : Int) (tb : List Int), ss = .int .i64 n ∧ 1 ≤ n ∧ n + r = ct + 1 ∧ Below w3.heap.size w3 wr ∧ wr.ownsRow w3.heap.size 2 1 (.slice (some ⟨w3.heap.size, 0, none⟩) xs.length xs.length) xs.length (vals tb) ∧ tb.length = xs.length ∧ R = tabR (fun n => fireF J xs rs fs dr st tol rds aw (n * sp)) bf r n tb) (fun ss _ => (ct + 1 - intOf ss).toNat)
  case atStart => exact ⟨ct.toNat, 1, _, rfl, by omega, by omega, hbe4, HO.out, by simp, HG.out⟩
  case round =>
    clear HG HO
    obtain ⟨r, n, tb, rfl, n1, hnr, hbw, hrow, htl, hR⟩ := hrel
    have HTL := Lib.hid htl
    have HROW := Lib.hid hrow
    have HRr := Lib.hid hR
    have bew := be3'.out.trans (hbw.mono be3'.out.size)
    have hgw : w3.heap.size < wr.heap.size := (World.ownsRow.lt hrow _ rfl).2
    clear hrow htl hR
    by_cases hnc : n ≤ ct
    rotate_left
    · obtain rfl : r = 0 := by omega
      have HZ : Hid (R = (tb, 0)) := Lib.hid HRr.out
      go_wp2_with fail
      go_ret2
      refine ⟨_, ret_vi (by rw [HZ.out]), ?_, bew⟩
      rw [HZ.out]
      exact Own.of_row HROW.out HTL.out be3'.out.size
    obtain ⟨r', rfl⟩ : ∃ r', r = r' + 1 := ⟨r - 1, by omega⟩
    have hm := sp_mul n1 hnc sp0 h5
    go_wp2_with fail
    refine (CF.out (n * sp) _ bew).mono ?_
    rintro e w5 ⟨u5, rfl, ho5, hb5⟩
    have HLA := Lib.hid (fun h => fireF_len (J := J) (xs := xs) (rs := rs) (fs := fs) (dr := dr) (st := st) (tol := tol) (rds := rds) (aw := aw) (am := n * sp) h)
    have HRS : Hid (R = if (fireF J xs rs fs dr st tol rds aw (n * sp)).2.2 = 0 then tabR (fun n => fireF J xs rs fs dr st tol rds aw (n * sp)) bf r' (n + 1) (turnK bf (fireF J xs rs fs dr st tol rds aw (n * sp)).1 n tb tb.length) else ([], (fireF J xs rs fs dr st tol rds aw (n * sp)).2.2)) := Lib.hid HRr.out
    have bew5 := bew.trans (hb5.mono bew.size)
    have hbw5 := hbw.trans (hb5.mono hbw.size)
    clear HRr
    generalize fireF J xs rs fs dr st tol rds aw (n * sp) = f5 at *
    obtain ⟨af, er5, c5⟩ := f5
    dsimp only at *
    by_cases hc5 : c5 = 0
    rotate_left
    · have HG : Hid (R = ([], c5)) := Lib.hid (by rw [HRS.out, if_neg hc5])
      have hcb : (c5 != 0) = true := by simpa using hc5
      clear hc5
      go_wp2_with fail
      go_ret2
      refine ⟨.slice none 0 0, ret_vi (by rw [HG.out]), ?_, bew5⟩
      rw [HG.out]; exact Own.nil_ _ _
    subst hc5
    have hal := HLA.out rfl
    obtain ⟨AA, ca, hv, -, hat⟩ := ho5.slice
    rw [hal] at hv
    subst hv
    have HAL := Lib.hid hal
    have JA := Lib.hid ho5.ints
    have HAT := Lib.hid (fun ad (h : AA = some ad) => (hat ad h).2.1)
    have HG : Hid (R = tabR (fun n => fireF J xs rs fs dr st tol rds aw (n * sp)) bf r' (n + 1) (turnK bf af n tb xs.length)) := Lib.hid (by rw [HRS.out, if_pos rfl, HTL.out])
    have HROW5 := Lib.hid (row_on HROW.out hb5)
    clear ho5 hat hal HLA HRS
    go_wp2_with fail
    go_loopw [31] (fun ii wx => ∃ k : Nat, k ≤ xs.length ∧ ii = .int .i64 k ∧ wx.ownsRow w3.heap.size 2 1 (.slice (some ⟨w3.heap.size, 0, none⟩) xs.length xs.length) xs.length (vals (turnK bf af n tb k)) ∧ w5.grownBy wx (some w3.heap.size)) (fun ii _ => xs.length - (intOf ii).toNat)
    case atStart => exact ⟨0, Nat.zero_le _, rfl, HROW5.out, World.grownBy.refl _ _⟩
    case round =>
      obtain ⟨k, hk, rfl, hr, hg⟩ := hrel
      have hbx : Below w3.heap.size w3 wr := hbw5.grown hg hbw5.size (fun j hj => by injection hj with hj; omega)
      have HR5 := Lib.hid hr
      have HGX := Lib.hid hg
      by_cases hlt : k < xs.length
      · have hlen : (turnK bf af n tb k).length = xs.length := (turnK_length _ _ _ _ _).trans HTL.out
        have hct := row_cell hr hlen hlt
        have hft := row_free hr k
        obtain ⟨adb, rfl, hbb, hcb⟩ := (JB.out.below hbx).atD (k := k) (by have := HBL.out; omega)
        obtain ⟨ada, rfl, haa, hca0⟩ := JA.out.atD (k := k) (by have := HAL.out; omega)
        have hca := hg.cell hca0 (fun e => by rw [block_add] at e; injection e with e; have := HAT.out ada rfl; omega)
        have HST : Hid (turnK bf af n tb (k + 1) = if (turnK bf af n tb k).getD k 0 = 0 ∧ opsB (bf.getD k 0) (af.getD k 0) = true then (turnK bf af n tb k).set k n else turnK bf af n tb k) := Lib.hid rfl
        have HOP := Lib.hid (fun W => oppo_s (bf.getD k 0) (af.getD k 0) W)
        clear hr hg hlen hca0
        generalize turnK bf af n tb k = D at *
        generalize D.getD k 0 = x at *
        generalize bf.getD k 0 = y at *
        generalize af.getD k 0 = z at *
        generalize opsB y z = ob at *
        have j0 : (0 : Int) ≤ (k : Int) := by omega
        have j1 : (k : Int) < xs.length := by omega
        by_cases hx0 : x = 0
        · subst hx0
          cases ob
          · have HS2 := Lib.hid (show turnK bf af n tb (k + 1) = D by rw [HST.out, if_neg (by simp)])
            go_wp2_with fail
            go_big_quiet ((go_at_call 68; first | (with_reducible exact quiet_s (HOP.out _)) | (with_reducible exact quiet_s2 (HOP.out _))))
            have HR7 := Lib.hid (drewN_row HR5.out nq)
            have HG7 := Lib.hid (HGX.out.trans (Below.grownBy (below_drewN (Below.refl _ _) nq) _))
            go_wp2_with fail
            go_roundw
            case rel => exact ⟨k + 1, by omega, by go_num, by rw [HS2.out]; exact HR7.out, HG7.out⟩
            case measure => simp [intOf]; omega
          · have HS2 := Lib.hid (show turnK bf af n tb (k + 1) = D.set k n by rw [HST.out, if_pos ⟨rfl, rfl⟩])
            go_wp2_with fail
            go_big_quiet ((go_at_call 68; first | (with_reducible exact quiet_s (HOP.out _)) | (with_reducible exact quiet_s2 (HOP.out _))))
            have HR7 := Lib.hid (drewN_row HR5.out nq)
            have HG7 := Lib.hid (HGX.out.trans (Below.grownBy (below_drewN (Below.refl _ _) nq) _))
            go_wp2_with fail
            go_roundw
            case rel =>
              obtain ⟨r1, r2⟩ := World.ownsRow.stored HR7.out k (.int .i64 n)
              rw [vals_set] at r1
              exact ⟨k + 1, by omega, by go_num, by rw [HS2.out]; exact r1, HG7.out.trans r2⟩
            case measure => simp [intOf]; omega
        · have HS2 := Lib.hid (show turnK bf af n tb (k + 1) = D by rw [HST.out, if_neg (fun h => hx0 h.1)])
          have hxb : (x == 0) = false := by simpa using hx0
          clear hx0
          go_wp2_with fail
          go_big_quiet ((go_at_call 68; first | (with_reducible exact quiet_s (HOP.out _)) | (with_reducible exact quiet_s2 (HOP.out _))))
          have HR7 := Lib.hid (drewN_row HR5.out nq)
          have HG7 := Lib.hid (HGX.out.trans (Below.grownBy (below_drewN (Below.refl _ _) nq) _))
          go_wp2_with fail
          go_roundw
          case rel => exact ⟨k + 1, by omega, by go_num, by rw [HS2.out]; exact HR7.out, HG7.out⟩
          case measure => simp [intOf]; omega
      · obtain rfl : k = xs.length := by omega
        clear hr hg
        go_wp2_with fail
        go_roundw
        case rel => exact ⟨r', n + 1, _, rfl, by omega, by omega, hbx, HR5.out, (turnK_length _ _ _ _ _).trans HTL.out, HG.out⟩
        case measure => simp [intOf]; omega
set_option maxRecDepth 100000 in
theorem ReversalTable_s (J : Int) (A : Option Addr) (cp : Nat) (xs : List Aw) (AR : Option Addr) (cr : Nat) (rs : List Int) (AF : Option Addr) (cf : Nat) (fs : List Fa) (AD : Option Addr) (cd : Nat) (dr : List Int) (AS : Option Addr) (cs : Nat) (st : List Int) (tol rds : Int) (aw sp ct : Int) (w : World) (hxl : (xs.length : Int) ≤ 1048576) (hrl : rs.length ≤ 1048576) (hfl : fs.length ≤ 1048576) (hdl : dr.length ≤ 1048576) (hsl : st.length ≤ 1048576) (fX : FitsA xs) (fF : FitsF fs) (lF : FansLen fs) (hI : Recs encA 7 w.heap.size w A xs) (hR : Ints w.heap.size w AR rs) (hF : Fns w.heap.size w AF fs) (hD : Ints w.heap.size w AD dr) (hS : Ints w.heap.size w AS st) :
    Calls Tryz.prog 17 #[.agg #[.int .i64 J, .slice A xs.length cp], .slice AR rs.length cr, .slice AF fs.length cf, .slice AD dr.length cd, .slice AS st.length cs, .int .i64 tol, .int .i64 rds, .int .i64 aw, .int .i64 sp, .int .i64 ct] w fun e w' => ∃ u, e = .returned (.tuple #[u, .int .i64 (tableF J xs rs fs dr st tol rds aw sp ct).2]) ∧ Own w.heap.size w' u (tableF J xs rs fs dr st tol rds aw sp ct).1 ∧ Below w.heap.size w w' := by
  have be0 : Below w.heap.size w (w.alloc (.cells #[.int .i64 J, .slice A xs.length cp] 33)) := by go_grown
  have k0 : ((w.alloc (.cells #[.int .i64 J, .slice A xs.length cp] 33))).cell? ⟨w.heap.size, 0, none⟩ = some (.int .i64 J) := by go_simp
  have k1 : ((w.alloc (.cells #[.int .i64 J, .slice A xs.length cp] 33))).cell? ⟨w.heap.size, 1, none⟩ = some (.slice A xs.length cp) := by go_simp
  have CF := Lib.hid (l18Table_any w.heap.size 0 J A cp xs AR cr rs AF cf fs AD cd dr AS cs st tol rds aw sp ct (w.alloc (.cells #[.int .i64 J, .slice A xs.length cp] 33)) hxl hrl hfl hdl hsl fX fF lF ((hI.below be0).more be0.size) ((hR.below be0).more be0.size) ((hF.below be0).more be0.size) ((hD.below be0).more be0.size) ((hS.below be0).more be0.size) k0 k1)
  clear hI hR hF hD hS fX fF lF k0 k1
  generalize tableF J xs rs fs dr st tol rds aw sp ct = R at *
  go_enter Tryz.func17, Tryz.ntmps17
  go_wp2_with fail
  refine CF.out.mono ?_
  rintro e w1 ⟨u, rfl, ho, hb⟩
  have HO := Lib.hid ho
  clear ho
  go_wp2_with fail
  go_ret2
  exact ⟨u, rfl, HO.out.base (fun g hg => Nat.le_trans be0.size (World.ownsRow.lt HO.out g hg).1), be0.trans (hb.mono be0.size)⟩
end Go.Proofs.YtejkoicgbgoiaaaGreat

/- What the marks of one list leave alone; how long the lists of flows are. Conditions: the facts that each theorem names. -/
namespace Go.Proofs.YtejkoicgbgoiaaaGreat
open Go.RowKit
open Pl
theorem WInts.same {L H : Nat} {w w' : World} {A : Option Addr} {n : Nat} (h : WInts L H w A n) (hs : ∀ k, L ≤ k → k < H → w'.heap[k]? = w.heap[k]?) : WInts L H w' A n := by
  intro hn
  obtain ⟨g, e, h1, h2, hc⟩ := h hn
  refine ⟨g, e, h1, h2, fun j hj => ?_⟩
  obtain ⟨⟨y, k0⟩, k1⟩ := hc j hj
  exact ⟨⟨y, (World.cell?_of_block (a := ⟨g, j, none⟩) (hs g h1 h2)).trans k0⟩, (World.frozen?_of_block (a := ⟨g, j, none⟩) (hs g h1 h2)).trans k1⟩
theorem WNest.same {L H : Nat} {w w' : World} {A : Option Addr} {xss : List (List Int)} (h : WNest L H w A xss) (hs : ∀ k, L ≤ k → k < H → w'.heap[k]? = w.heap[k]?) : WNest L H w' A xss := by
  intro hn
  obtain ⟨b, o, e, h1, h2, hc⟩ := h hn
  refine ⟨b, o, e, h1, h2, fun k hk => ?_⟩
  obtain ⟨A', c, k0, k1⟩ := hc k hk
  exact ⟨A', c, (World.cell?_of_block (a := ⟨b, o + k, none⟩) (hs b h1 h2)).trans k0, k1.same hs⟩
theorem WFans.same {L H : Nat} {w w' : World} {A : Option Addr} {xs : List Fa} (h : WFans L H w A xs) (hs : ∀ k, L ≤ k → k < H → w'.heap[k]? = w.heap[k]?) : WFans L H w' A xs := by
  intro hn
  obtain ⟨b, e, h1, h2, hc⟩ := h hn
  refine ⟨b, e, h1, h2, fun k hk => ?_⟩
  obtain ⟨⟨s, k0⟩, ⟨y, k1⟩, f0, f1, A', c, k2, k3⟩ := hc k hk
  exact ⟨⟨s, (World.cell?_of_block (a := ⟨b, k * 3, none⟩) (hs b h1 h2)).trans k0⟩, ⟨y, (World.cell?_of_block (a := ⟨b, k * 3 + 1, none⟩) (hs b h1 h2)).trans k1⟩, (World.frozen?_of_block (a := ⟨b, k * 3, none⟩) (hs b h1 h2)).trans f0, (World.frozen?_of_block (a := ⟨b, k * 3 + 1, none⟩) (hs b h1 h2)).trans f1, A', c, (World.cell?_of_block (a := ⟨b, k * 3 + 2, none⟩) (hs b h1 h2)).trans k2, k3.same hs⟩
theorem WFans.kept {L H : Nat} {w w' : World} {A : Option Addr} {xs : List Fa} {row : Option Nat} (h : WFans L H w A xs) (hg : w.grownBy w' row) (hH : H ≤ w.heap.size) (hne : ∀ g, row = some g → g < L ∨ H ≤ g) : WFans L H w' A xs :=
  h.same fun k h1 h2 => hg.block k (by omega) (fun e => by have := hne k e.symm; omega)
theorem szA_or3 (xs0 : List Aw) : szA xs0 1048576 < 0 ∨ (0 ≤ szA xs0 1048576 ∧ szA xs0 1048576 ≤ 1048576 ∧ (xs0.length : Int) ≤ 1048576) := by
  have := idLen_nonneg xs0 xs0.length
  unfold szA
  split <;> omega
theorem apart_of {v v' : Value} {a b c d : Nat} (h : ∀ g, v.ownBlock = some g → a ≤ g ∧ g < b) (h' : ∀ g, v'.ownBlock = some g → c ≤ g ∧ g < d) (hs : b ≤ c ∨ d ≤ a) : v.ownBlock = none ∨ v.ownBlock ≠ v'.ownBlock := by
  cases e : v.ownBlock with
  | none => exact .inl rfl
  | some g =>
    refine .inr fun e' => ?_
    have a := h g e
    have c := h' g e'.symm
    omega
theorem Own.zone {base L H a b : Nat} {w w' : World} {v : Value} {xs : List Int} (h : Own base w v xs) (z : Zone L H w w') (u : ∀ g, v.ownBlock = some g → a ≤ g ∧ g < b) (hs : b ≤ L ∨ H ≤ a) : Own base w' v xs := by
  unfold Own at h ⊢
  refine ⟨h.1, ?_⟩
  rcases h.2 with hn | ⟨g, cap, cur, e1, e2, e3, rest⟩
  · exact .inl hn
  · have hl := World.ownsRow.lt h g (by rw [e1]; rfl)
    have hu := u g (by rw [e1]; rfl)
    exact .inr ⟨g, cap, cur, e1, e2, (z.block g hl.2 (by omega)).trans e3, rest⟩
theorem solveR_le {rs dr : List Int} {fs : List Fa} {ms : List (List Int)} {tol : Int} : ∀ (n : Nat) {fl : List Int}, (solveR rs dr fs ms tol n fl).1.length ≤ fl.length
  | 0, fl => by
    rw [solveR_zero]
    split <;> simp
  | n + 1, fl => by
    by_cases hc : worstL (errsL rs (pushF fs fl dr) fl ms) ≤ tol
    · rw [solveR_yes hc]; exact Nat.le_refl _
    · cases hp : passK rs dr fs ms fl with
      | none => rw [solveR_bad hc hp]; simp
      | some fl' =>
        rw [solveR_go hc hp]
        have := solveR_le (rs := rs) (dr := dr) (fs := fs) (ms := ms) (tol := tol) n (fl := fl')
        rw [passK_len hp] at this
        exact this
theorem solveF_le {J : Int} {xs : List Aw} {rs : List Int} {fs : List Fa} {dr st : List Int} {tol rds : Int} : (solveF J xs rs fs dr st tol rds).1.length ≤ xs.length := by
  unfold solveF
  split
  · split
    · split
      · rename_i h3
        split
        · refine Nat.le_trans (solveR_le _) ?_
          unfold sysB at h3
          simp only [Bool.and_eq_true] at h3
          exact Nat.le_of_eq (lstN_iff.1 h3.1.2.2).1
        · simp
      · simp
    · simp
  · simp
theorem fireF_le {J : Int} {xs : List Aw} {rs : List Int} {fs : List Fa} {dr st : List Int} {tol rds aw am : Int} : (fireF J xs rs fs dr st tol rds aw am).1.length ≤ xs.length := by
  unfold fireF
  split
  · exact solveF_le
  · simp
end Go.Proofs.YtejkoicgbgoiaaaGreat

/- The law FnExactReversalTable: its walk. Conditions: the facts on memory and on lengths that the theorem names. Printed by gen_great.py. -/
namespace Go.Proofs.YtejkoicgbgoiaaaGreat
open Go.RowKit
open Pl
set_option maxRecDepth 100000 in
set_option maxHeartbeats 6400000 in
theorem fnExactReversalTable_walk {w : World} (J : Int) (A0 : Option Addr) (c0 : Nat) (xs0 : List Aw) (I0 : Recs encA 7 w.heap.size w A0 xs0) (F0 : FitsA xs0) (l0 : xs0.length ≤ maxLen) (A1 : Option Addr) (c1 : Nat) (rs : List Int) (I1 : Ints w.heap.size w A1 rs) (T1 : Fits rs) (_ : rs.length ≤ maxLen) (A2 : Option Addr) (c2 : Nat) (fs : List Fa) (I2 : Fns w.heap.size w A2 fs) (F2 : FitsF fs) (l2 : fs.length ≤ maxLen) (A3 : Option Addr) (c3 : Nat) (dr : List Int) (I3 : Ints w.heap.size w A3 dr) (T3 : Fits dr) (_ : dr.length ≤ maxLen) (A4 : Option Addr) (c4 : Nat) (st : List Int) (I4 : Ints w.heap.size w A4 st) (T4 : Fits st) (_ : st.length ≤ maxLen) (tol : Int) (_ : -9223372036854775808 ≤ tol ∧ tol ≤ 9223372036854775807) (rds : Int) (_ : -9223372036854775808 ≤ rds ∧ rds ≤ 9223372036854775807) (aw : Int) (_ : -9223372036854775808 ≤ aw ∧ aw ≤ 9223372036854775807) (sp : Int) (_ : -9223372036854775808 ≤ sp ∧ sp ≤ 9223372036854775807) (ct : Int) (_ : -9223372036854775808 ≤ ct ∧ ct ≤ 9223372036854775807) :
    Calls Tryz.prog 4 #[.agg #[.int .i64 J, .slice A0 xs0.length c0], .slice A1 rs.length c1, .slice A2 fs.length c2, .slice A3 dr.length c3, .slice A4 st.length c4, .int .i64 tol, .int .i64 rds, .int .i64 aw, .int .i64 sp, .int .i64 ct] w fun e w' => e = .returned (.bool true) ∧ Below w.heap.size w w' := by
  by_cases hn1 : (rs.length : Int) ≤ 1048576
  rotate_left
  · go_enter Tryz.func4, Tryz.ntmps4
    go_wp2
    go_ret
    exact ⟨rfl, by go_grown⟩
  by_cases hn3 : (dr.length : Int) ≤ 1048576
  rotate_left
  · go_enter Tryz.func4, Tryz.ntmps4
    go_wp2
    go_ret
    exact ⟨rfl, by go_grown⟩
  by_cases hn4 : (st.length : Int) ≤ 1048576
  rotate_left
  · go_enter Tryz.func4, Tryz.ntmps4
    go_wp2
    go_ret
    exact ⟨rfl, by go_grown⟩
  have hb0 : Below w.heap.size w (w.alloc (.cells #[.int .i64 J, .slice A0 xs0.length c0] 24)) := by go_grown
  have HI0 := Lib.hid I0
  have HF0 := Lib.hid F0
  have HI2 := Lib.hid I2
  have HF2 := Lib.hid F2
  have HT1 := Lib.hid T1
  have HI1 := Lib.hid I1
  have HT3 := Lib.hid T3
  have HI3 := Lib.hid I3
  have HT4 := Lib.hid T4
  have HI4 := Lib.hid I4
  obtain ⟨R, hRR⟩ : ∃ R, R = tableF J xs0 rs fs dr st tol rds aw sp ct := ⟨_, rfl⟩
  have HRR := Lib.hid hRR
  clear hRR
  have HS := Lib.hid (fun (W : World) (hb : Below w.heap.size w W) => szMine_any J A0 c0 xs0 1048576 w.heap.size W (by omega) (by omega) l0 F0 (I0.below hb) hb.size)
  have HZ := Lib.hid (fun (q : Int) (h1 : 0 ≤ q) (h2 : q ≤ 1048576) (W : World) (hb : Below w.heap.size w W) => szFanS_any A2 c2 fs q w.heap.size W h1 h2 l2 F2 (I2.below hb) hb.size)
  have hor2 : ∀ q : Int, 0 ≤ q → q ≤ 1048576 → szF fs q = -1 ∨ (0 ≤ szF fs q ∧ szF fs q ≤ q ∧ (fs.length : Int) ≤ 1048576 ∧ FansLen fs) := fun q h0 h1 => szF_or fs q h1 h0
  clear I0 F0 I1 T1 I2 F2 I3 T3 I4 T4
  have hor := szA_or3 xs0
  generalize szA xs0 1048576 = q at *
  rcases hor with hq | ⟨hq, hqq, hn0⟩
  · go_enter Tryz.func4, Tryz.ntmps4
    go_wp2_with fail
    refine (HS.out _ hb0).mono ?_
    rintro e w1 ⟨rfl, hb1⟩
    go_wp2_with fail
    go_ret
    exact ⟨rfl, hb0.trans (hb1.mono hb0.size)⟩
  have hor3 := hor2 q hq hqq
  clear hor2
  have hR : R.1.length ≤ 1048576 := by rw [HRR.out]; exact Nat.le_trans (tableF_len ..) (by omega)
  have hcz := cntF_sz fs q
  have hcn := cntF_nonneg fs fs.length
  go_enter Tryz.func4, Tryz.ntmps4
  go_wp2_with fail
  refine (HS.out _ hb0).mono ?_
  rintro e w1 ⟨rfl, hb1⟩
  have mA1 : w1.cell? ⟨w.heap.size, 0, none⟩ = some (.int .i64 J) := by rw [(bcell hb1).1 _ _ (by simp)]; go_simp
  have mB1 : w1.cell? ⟨w.heap.size, 1, none⟩ = some (.slice A0 xs0.length c0) := by rw [(bcell hb1).1 _ _ (by simp)]; go_simp
  have be1 := hb0.trans (hb1.mono hb0.size)
  have sz1 : w.heap.size < w1.heap.size := by have := hb1.size; simp at this; omega
  clear hb1
  go_wp2_with fail
  have CZ := HZ.out q hq hqq _ be1
  generalize szF fs q = q2 at *
  refine CZ.mono ?_
  clear CZ
  rintro e w2 ⟨rfl, hb2⟩
  have sz2 : w1.heap.size ≤ w2.heap.size := hb2.size
  have be2 := be1.trans (hb2.mono be1.size)
  have mA2 := ((bcell hb2).1 _ _ (by omega)).trans mA1
  have mB2 := ((bcell hb2).1 _ _ (by omega)).trans mB1
  clear mA1 mB1
  clear hb2
  rcases hor3 with rfl | ⟨hq2, hq2q, hnf, lF⟩
  · go_wp2_with fail
    go_ret
    exact ⟨rfl, be2⟩
  go_wp2_with fail
  refine (toMine_any J A0 c0 xs0 w.heap.size _ (by omega) (HI0.out.below be2) be2.size).mono ?_
  rintro e w3 ⟨v3, rfl, ho3, hb3⟩
  have sz3 : w2.heap.size ≤ w3.heap.size := hb3.size
  have be3 := be2.trans (hb3.mono be2.size)
  have mA3 := ((bcell hb3).1 _ _ (by omega)).trans mA2
  have mB3 := ((bcell hb3).1 _ _ (by omega)).trans mB2
  clear mA2 mB2
  clear hb3
  obtain ⟨A_3, c_3, rfl, -, -⟩ := ho3.slice encA_len
  have rs0_3 := Lib.hid (ho3)
  clear ho3
  go_wp2_with fail
  refine (toInt64S_any A1 c1 rs w.heap.size _ (by omega) (HI1.out.below be3) be3.size).mono ?_
  rintro e w4 ⟨rfl, ho4, hb4⟩
  have sz4 : w3.heap.size ≤ w4.heap.size := hb4.size
  have be4 := be3.trans (hb4.mono be3.size)
  have mA4 := ((bcell hb4).1 _ _ (by omega)).trans mA3
  have mB4 := ((bcell hb4).1 _ _ (by omega)).trans mB3
  clear mA3 mB3
  have rs0_4 := Lib.hid (rs0_3.out.later hb4)
  clear rs0_3
  clear hb4
  have rs1_4 := Lib.hid (ho4)
  clear ho4
  go_wp2_with fail
  refine (toFanS_w A2 c2 fs w.heap.size _ (by omega) lF (HI2.out.below be4) be4.size).mono ?_
  rintro e w5 ⟨rfl, ho5, hb5⟩
  have sz5 : w4.heap.size ≤ w5.heap.size := hb5.size
  have be5 := be4.trans (hb5.mono be4.size)
  have mA5 := ((bcell hb5).1 _ _ (by omega)).trans mA4
  have mB5 := ((bcell hb5).1 _ _ (by omega)).trans mB4
  clear mA4 mB4
  have rs0_5 := Lib.hid (rs0_4.out.later hb5)
  clear rs0_4
  have rs1_5 := Lib.hid (rs1_4.out.later hb5)
  clear rs1_4
  clear hb5
  have rs2_5 := Lib.hid (ho5.1.fns)
  clear ho5
  go_wp2_with fail
  refine (toInt64S_any A3 c3 dr w.heap.size _ (by omega) (HI3.out.below be5) be5.size).mono ?_
  rintro e w6 ⟨rfl, ho6, hb6⟩
  have sz6 : w5.heap.size ≤ w6.heap.size := hb6.size
  have be6 := be5.trans (hb6.mono be5.size)
  have mA6 := ((bcell hb6).1 _ _ (by omega)).trans mA5
  have mB6 := ((bcell hb6).1 _ _ (by omega)).trans mB5
  clear mA5 mB5
  have rs0_6 := Lib.hid (rs0_5.out.later hb6)
  clear rs0_5
  have rs1_6 := Lib.hid (rs1_5.out.later hb6)
  clear rs1_5
  have rs2_6 := Lib.hid (rs2_5.out.later hb6)
  clear rs2_5
  clear hb6
  have rs3_6 := Lib.hid (ho6)
  clear ho6
  go_wp2_with fail
  refine (toInt64S_any A4 c4 st w.heap.size _ (by omega) (HI4.out.below be6) be6.size).mono ?_
  rintro e w7 ⟨rfl, ho7, hb7⟩
  have sz7 : w6.heap.size ≤ w7.heap.size := hb7.size
  have be7 := be6.trans (hb7.mono be6.size)
  have mA7 := ((bcell hb7).1 _ _ (by omega)).trans mA6
  have mB7 := ((bcell hb7).1 _ _ (by omega)).trans mB6
  clear mA6 mB6
  have rs0_7 := Lib.hid (rs0_6.out.later hb7)
  clear rs0_6
  have rs1_7 := Lib.hid (rs1_6.out.later hb7)
  clear rs1_6
  have rs2_7 := Lib.hid (rs2_6.out.later hb7)
  clear rs2_6
  have rs3_7 := Lib.hid (rs3_6.out.later hb7)
  clear rs3_6
  clear hb7
  have rs4_7 := Lib.hid (ho7)
  clear ho7
  go_wp2_with fail
  have CC8 := ReversalTable_s J _ c_3 xs0 _ rs.length rs _ fs.length fs _ dr.length dr _ st.length st tol rds aw sp ct _ (by omega) (by omega) (by omega) (by omega) (by omega) HF0.out HF2.out lF (rs0_7.out.rows encA_len) rs1_7.out.ints rs2_7.out rs3_7.out.ints rs4_7.out.ints
  rw [← HRR.out] at CC8
  refine CC8.mono ?_
  clear CC8
  rintro e w8 ⟨v8, rfl, ho8, hb8⟩
  have sz8 : w7.heap.size ≤ w8.heap.size := hb8.size
  have be8 := be7.trans (hb8.mono be7.size)
  have mA8 := ((bcell hb8).1 _ _ (by omega)).trans mA7
  have mB8 := ((bcell hb8).1 _ _ (by omega)).trans mB7
  clear mA7 mB7
  have rs0_8 := Lib.hid (rs0_7.out.later hb8)
  clear rs0_7
  have rs1_8 := Lib.hid (rs1_7.out.later hb8)
  clear rs1_7
  have rs2_8 := Lib.hid (rs2_7.out.later hb8)
  clear rs2_7
  have rs3_8 := Lib.hid (rs3_7.out.later hb8)
  clear rs3_7
  have rs4_8 := Lib.hid (rs4_7.out.later hb8)
  clear rs4_7
  clear hb8
  obtain ⟨A_8, c_8, rfl, -, -⟩ := ho8.slice
  clear rs0_8 rs1_8 rs2_8 rs3_8 rs4_8
  have rw0_8 := Lib.hid (ho8)
  have uw0 := Lib.hid (World.ownsRow.lt ho8)
  clear ho8
  go_wp2_with fail
  refine (toMine_any J A0 c0 xs0 w.heap.size _ (by omega) (HI0.out.below be8) be8.size).mono ?_
  rintro e w9 ⟨v9, rfl, ho9, hb9⟩
  have sz9 : w8.heap.size ≤ w9.heap.size := hb9.size
  have be9 := be8.trans (hb9.mono be8.size)
  have mA9 := ((bcell hb9).1 _ _ (by omega)).trans mA8
  have mB9 := ((bcell hb9).1 _ _ (by omega)).trans mB8
  clear mA8 mB8
  have rw0_9 := Lib.hid (rw0_8.out.later hb9)
  clear rw0_8
  clear hb9
  obtain ⟨A_9, c_9, rfl, -, -⟩ := ho9.slice encA_len
  have rx0_9 := Lib.hid (ho9)
  have ux0 := Lib.hid (World.ownsRow.lt ho9)
  clear ho9
  go_wp2_with fail
  have hb10 : Below w9.heap.size w9 (w9.alloc (.cells #[.int .i64 J, .slice A_9 xs0.length c_9] 33)) := (Below.refl _ _).alloc (Nat.le_refl _) _
  have nA10 : (w9.alloc (.cells #[.int .i64 J, .slice A_9 xs0.length c_9] 33)).cell? ⟨w9.heap.size, 0, none⟩ = some (.int .i64 J) := by go_simp
  have nB10 : (w9.alloc (.cells #[.int .i64 J, .slice A_9 xs0.length c_9] 33)).cell? ⟨w9.heap.size, 1, none⟩ = some (.slice A_9 xs0.length c_9) := by go_simp
  have lt10 : w9.heap.size < (w9.alloc (.cells #[.int .i64 J, .slice A_9 xs0.length c_9] 33)).heap.size := by simp
  generalize (w9.alloc (.cells #[.int .i64 J, .slice A_9 xs0.length c_9] 33)) = w10 at *
  have sz10 : w9.heap.size ≤ w10.heap.size := hb10.size
  have be10 := be9.trans (hb10.mono be9.size)
  have mA10 := ((bcell hb10).1 _ _ (by omega)).trans mA9
  have mB10 := ((bcell hb10).1 _ _ (by omega)).trans mB9
  clear mA9 mB9
  have rw0_10 := Lib.hid (rw0_9.out.later hb10)
  clear rw0_9
  have rx0_10 := Lib.hid (rx0_9.out.later hb10)
  clear rx0_9
  clear hb10
  refine (toInt64S_any A1 c1 rs w.heap.size _ (by omega) (HI1.out.below be10) be10.size).mono ?_
  rintro e w11 ⟨rfl, ho11, hb11⟩
  have sz11 : w10.heap.size ≤ w11.heap.size := hb11.size
  have be11 := be10.trans (hb11.mono be10.size)
  have mA11 := ((bcell hb11).1 _ _ (by omega)).trans mA10
  have mB11 := ((bcell hb11).1 _ _ (by omega)).trans mB10
  have nA11 := ((bcell hb11).1 _ _ (by omega)).trans nA10
  have nB11 := ((bcell hb11).1 _ _ (by omega)).trans nB10
  clear mA10 mB10 nA10 nB10
  have rw0_11 := Lib.hid (rw0_10.out.later hb11)
  clear rw0_10
  have rx0_11 := Lib.hid (rx0_10.out.later hb11)
  clear rx0_10
  clear hb11
  have rx1_11 := Lib.hid (ho11)
  have ux1 := Lib.hid (World.ownsRow.lt ho11)
  clear ho11
  go_wp2_with fail
  refine (toFanS_w A2 c2 fs w.heap.size _ (by omega) lF (HI2.out.below be11) be11.size).mono ?_
  rintro e w12 ⟨rfl, ho12, hb12⟩
  have sz12 : w11.heap.size ≤ w12.heap.size := hb12.size
  have be12 := be11.trans (hb12.mono be11.size)
  have mA12 := ((bcell hb12).1 _ _ (by omega)).trans mA11
  have mB12 := ((bcell hb12).1 _ _ (by omega)).trans mB11
  have nA12 := ((bcell hb12).1 _ _ (by omega)).trans nA11
  have nB12 := ((bcell hb12).1 _ _ (by omega)).trans nB11
  clear mA11 mB11 nA11 nB11
  have rw0_12 := Lib.hid (rw0_11.out.later hb12)
  clear rw0_11
  have rx0_12 := Lib.hid (rx0_11.out.later hb12)
  clear rx0_11
  have rx1_12 := Lib.hid (rx1_11.out.later hb12)
  clear rx1_11
  clear hb12
  have rx2_12 := Lib.hid (ho12.1.fns)
  have rX2_12 := Lib.hid (ho12.2)
  clear ho12
  go_wp2_with fail
  refine (toInt64S_any A3 c3 dr w.heap.size _ (by omega) (HI3.out.below be12) be12.size).mono ?_
  rintro e w13 ⟨rfl, ho13, hb13⟩
  have sz13 : w12.heap.size ≤ w13.heap.size := hb13.size
  have be13 := be12.trans (hb13.mono be12.size)
  have mA13 := ((bcell hb13).1 _ _ (by omega)).trans mA12
  have mB13 := ((bcell hb13).1 _ _ (by omega)).trans mB12
  have nA13 := ((bcell hb13).1 _ _ (by omega)).trans nA12
  have nB13 := ((bcell hb13).1 _ _ (by omega)).trans nB12
  clear mA12 mB12 nA12 nB12
  have rw0_13 := Lib.hid (rw0_12.out.later hb13)
  clear rw0_12
  have rx0_13 := Lib.hid (rx0_12.out.later hb13)
  clear rx0_12
  have rx1_13 := Lib.hid (rx1_12.out.later hb13)
  clear rx1_12
  have rx2_13 := Lib.hid (rx2_12.out.later hb13)
  clear rx2_12
  have rX2_13 := Lib.hid (rX2_12.out.below (hb13.mono (by omega)))
  clear rX2_12
  clear hb13
  have rx3_13 := Lib.hid (ho13)
  have ux3 := Lib.hid (World.ownsRow.lt ho13)
  clear ho13
  go_wp2_with fail
  refine (toInt64S_any A4 c4 st w.heap.size _ (by omega) (HI4.out.below be13) be13.size).mono ?_
  rintro e w14 ⟨rfl, ho14, hb14⟩
  have sz14 : w13.heap.size ≤ w14.heap.size := hb14.size
  have be14 := be13.trans (hb14.mono be13.size)
  have mA14 := ((bcell hb14).1 _ _ (by omega)).trans mA13
  have mB14 := ((bcell hb14).1 _ _ (by omega)).trans mB13
  have nA14 := ((bcell hb14).1 _ _ (by omega)).trans nA13
  have nB14 := ((bcell hb14).1 _ _ (by omega)).trans nB13
  clear mA13 mB13 nA13 nB13
  have rw0_14 := Lib.hid (rw0_13.out.later hb14)
  clear rw0_13
  have rx0_14 := Lib.hid (rx0_13.out.later hb14)
  clear rx0_13
  have rx1_14 := Lib.hid (rx1_13.out.later hb14)
  clear rx1_13
  have rx2_14 := Lib.hid (rx2_13.out.later hb14)
  clear rx2_13
  have rX2_14 := Lib.hid (rX2_13.out.below (hb14.mono (by omega)))
  clear rX2_13
  have rx3_14 := Lib.hid (rx3_13.out.later hb14)
  clear rx3_13
  clear hb14
  have rx4_14 := Lib.hid (ho14)
  have ux4 := Lib.hid (World.ownsRow.lt ho14)
  clear ho14
  go_wp2_with fail
  have CC15 := ReversalTable_i J _ c_9 xs0 _ rs.length rs _ fs.length fs _ dr.length dr _ st.length st tol rds aw sp ct _ (by omega) (by omega) (by omega) (by omega) (by omega) HF0.out HT1.out HF2.out lF HT3.out HT4.out (rx0_14.out.rows encA_len) rx1_14.out.ints rx2_14.out rx3_14.out.ints rx4_14.out.ints
  rw [← HRR.out] at CC15
  refine CC15.mono ?_
  clear CC15
  rintro e w15 ⟨v15, rfl, ho15, hb15⟩
  have sz15 : w14.heap.size ≤ w15.heap.size := hb15.size
  have be15 := be14.trans (hb15.mono be14.size)
  have mA15 := ((bcell hb15).1 _ _ (by omega)).trans mA14
  have mB15 := ((bcell hb15).1 _ _ (by omega)).trans mB14
  have nA15 := ((bcell hb15).1 _ _ (by omega)).trans nA14
  have nB15 := ((bcell hb15).1 _ _ (by omega)).trans nB14
  clear mA14 mB14 nA14 nB14
  have rw0_15 := Lib.hid (rw0_14.out.later hb15)
  clear rw0_14
  have rx0_15 := Lib.hid (rx0_14.out.later hb15)
  clear rx0_14
  have rx1_15 := Lib.hid (rx1_14.out.later hb15)
  clear rx1_14
  have rx2_15 := Lib.hid (rx2_14.out.later hb15)
  clear rx2_14
  have rX2_15 := Lib.hid (rX2_14.out.below (hb15.mono (by omega)))
  clear rX2_14
  have rx3_15 := Lib.hid (rx3_14.out.later hb15)
  clear rx3_14
  have rx4_15 := Lib.hid (rx4_14.out.later hb15)
  clear rx4_14
  clear hb15
  obtain ⟨A_15, c_15, rfl, -, -⟩ := ho15.slice
  have rg0_15 := Lib.hid (ho15)
  have ug0 := Lib.hid (World.ownsRow.lt ho15)
  clear ho15
  go_wp2_with fail
  refine (dB (eqInt64S_yes _ _ _ _ R.1 _ _ _ (by omega) rg0_15.out.ints rw0_15.out.ints)).mono ?_
  rintro e w16 ⟨rfl, hb16⟩
  have sz16 : w15.heap.size ≤ w16.heap.size := hb16.size
  have be16 := be15.trans (hb16.mono be15.size)
  have mA16 := ((bcell hb16).1 _ _ (by omega)).trans mA15
  have mB16 := ((bcell hb16).1 _ _ (by omega)).trans mB15
  have nA16 := ((bcell hb16).1 _ _ (by omega)).trans nA15
  have nB16 := ((bcell hb16).1 _ _ (by omega)).trans nB15
  clear mA15 mB15 nA15 nB15
  have rw0_16 := Lib.hid (rw0_15.out.later hb16)
  clear rw0_15
  have rx0_16 := Lib.hid (rx0_15.out.later hb16)
  clear rx0_15
  have rx1_16 := Lib.hid (rx1_15.out.later hb16)
  clear rx1_15
  have rx2_16 := Lib.hid (rx2_15.out.later hb16)
  clear rx2_15
  have rX2_16 := Lib.hid (rX2_15.out.below (hb16.mono (by omega)))
  clear rX2_15
  have rx3_16 := Lib.hid (rx3_15.out.later hb16)
  clear rx3_15
  have rx4_16 := Lib.hid (rx4_15.out.later hb16)
  clear rx4_15
  have rg0_16 := Lib.hid (rg0_15.out.later hb16)
  clear rg0_15
  clear hb16
  go_wp2_with fail
  have HBX := Lib.hid be16
  go_region_held3 (fun w' => (w'.cell? ⟨w.heap.size, 0, none⟩ = some (.int .i64 J) ∧ w'.cell? ⟨w.heap.size, 1, none⟩ = some (.slice A0 xs0.length c0)) ∧ (w'.cell? ⟨w9.heap.size, 0, none⟩ = some (.int .i64 J) ∧ w'.cell? ⟨w9.heap.size, 1, none⟩ = some (.slice A_9 xs0.length c_9)))
    (first
      | go_keep
      | exact ⟨⟨((bcell hb18).1 _ _ (by have := hb17.size; simp at this; omega)).trans (((bcell hb17).1 _ _ (by simp <;> omega)).trans mA16), ((bcell hb18).1 _ _ (by have := hb17.size; simp at this; omega)).trans (((bcell hb17).1 _ _ (by simp <;> omega)).trans mB16)⟩, ((bcell hb18).1 _ _ (by have := hb17.size; simp at this; omega)).trans (((bcell hb17).1 _ _ (by simp <;> omega)).trans nA16), ((bcell hb18).1 _ _ (by have := hb17.size; simp at this; omega)).trans (((bcell hb17).1 _ _ (by simp <;> omega)).trans nB16)⟩
      | exact ⟨⟨((bcell hb17).1 _ _ (by simp <;> omega)).trans mA16, ((bcell hb17).1 _ _ (by simp <;> omega)).trans mB16⟩, ((bcell hb17).1 _ _ (by simp <;> omega)).trans nA16, ((bcell hb17).1 _ _ (by simp <;> omega)).trans nB16⟩)
    (first
      | (go_at_call 10; refine (toMine_any J A0 c0 xs0 w.heap.size _ (by omega) (by first | exact HI0.out.below HBX.out | exact HI0.out.below HBX.out.drew) (by first | exact HBX.out.size | exact HBX.out.drew.size)).mono ?_; rintro e w17 ⟨v17, rfl, ho17, hb17⟩; obtain ⟨A_17, c_17, rfl, -, -⟩ := ho17.slice encA_len)
      | (go_at_call 14; refine (eqMine_yes J _ _ _ _ xs0 _ _ _ (by omega) (by first | exact (rx0_16.out.later hb17).rows encA_len | exact ((rx0_16.out.later (Below.refl _ _).drew).later hb17).rows encA_len) (ho17.rows encA_len) (Nat.le_refl _) (Nat.le_refl _)).mono ?_; rintro e w18 ⟨rfl, hb18⟩))
  have hcx : Below w16.heap.size w16 w17 := ((Below.refl w16.heap.size w16).drew).trans (hb17.mono (by simp))
  clear hb17
  have hb17 := hcx
  clear hcx ho17
  have sz17 : w16.heap.size ≤ w17.heap.size := hb17.size
  have be17 := be16.trans (hb17.mono be16.size)
  have mA17 := ((bcell hb17).1 _ _ (by omega)).trans mA16
  have mB17 := ((bcell hb17).1 _ _ (by omega)).trans mB16
  have nA17 := ((bcell hb17).1 _ _ (by omega)).trans nA16
  have nB17 := ((bcell hb17).1 _ _ (by omega)).trans nB16
  clear mA16 mB16 nA16 nB16
  have rw0_17 := Lib.hid (rw0_16.out.later hb17)
  clear rw0_16
  have rx0_17 := Lib.hid (rx0_16.out.later hb17)
  clear rx0_16
  have rx1_17 := Lib.hid (rx1_16.out.later hb17)
  clear rx1_16
  have rx2_17 := Lib.hid (rx2_16.out.later hb17)
  clear rx2_16
  have rX2_17 := Lib.hid (rX2_16.out.below (hb17.mono (by omega)))
  clear rX2_16
  have rx3_17 := Lib.hid (rx3_16.out.later hb17)
  clear rx3_16
  have rx4_17 := Lib.hid (rx4_16.out.later hb17)
  clear rx4_16
  have rg0_17 := Lib.hid (rg0_16.out.later hb17)
  clear rg0_16
  clear hb17
  have sz18 : w17.heap.size ≤ w18.heap.size := hb18.size
  have be18 := be17.trans (hb18.mono be17.size)
  have mA18 := ((bcell hb18).1 _ _ (by omega)).trans mA17
  have mB18 := ((bcell hb18).1 _ _ (by omega)).trans mB17
  have nA18 := ((bcell hb18).1 _ _ (by omega)).trans nA17
  have nB18 := ((bcell hb18).1 _ _ (by omega)).trans nB17
  clear mA17 mB17 nA17 nB17
  have rw0_18 := Lib.hid (rw0_17.out.later hb18)
  clear rw0_17
  have rx0_18 := Lib.hid (rx0_17.out.later hb18)
  clear rx0_17
  have rx1_18 := Lib.hid (rx1_17.out.later hb18)
  clear rx1_17
  have rx2_18 := Lib.hid (rx2_17.out.later hb18)
  clear rx2_17
  have rX2_18 := Lib.hid (rX2_17.out.below (hb18.mono (by omega)))
  clear rX2_17
  have rx3_18 := Lib.hid (rx3_17.out.later hb18)
  clear rx3_17
  have rx4_18 := Lib.hid (rx4_17.out.later hb18)
  clear rx4_17
  have rg0_18 := Lib.hid (rg0_17.out.later hb18)
  clear rg0_17
  clear hb18
  go_wp2_with fail
  refine (toInt64S_any A1 c1 rs w.heap.size _ (by omega) (HI1.out.below be18) be18.size).mono ?_
  rintro e w19 ⟨rfl, ho19, hb19⟩
  have sz19 : w18.heap.size ≤ w19.heap.size := hb19.size
  have be19 := be18.trans (hb19.mono be18.size)
  have mA19 := ((bcell hb19).1 _ _ (by omega)).trans mA18
  have mB19 := ((bcell hb19).1 _ _ (by omega)).trans mB18
  have nA19 := ((bcell hb19).1 _ _ (by omega)).trans nA18
  have nB19 := ((bcell hb19).1 _ _ (by omega)).trans nB18
  clear mA18 mB18 nA18 nB18
  have rw0_19 := Lib.hid (rw0_18.out.later hb19)
  clear rw0_18
  have rx0_19 := Lib.hid (rx0_18.out.later hb19)
  clear rx0_18
  have rx1_19 := Lib.hid (rx1_18.out.later hb19)
  clear rx1_18
  have rx2_19 := Lib.hid (rx2_18.out.later hb19)
  clear rx2_18
  have rX2_19 := Lib.hid (rX2_18.out.below (hb19.mono (by omega)))
  clear rX2_18
  have rx3_19 := Lib.hid (rx3_18.out.later hb19)
  clear rx3_18
  have rx4_19 := Lib.hid (rx4_18.out.later hb19)
  clear rx4_18
  have rg0_19 := Lib.hid (rg0_18.out.later hb19)
  clear rg0_18
  clear hb19
  have ry_19 := Lib.hid (ho19)
  clear ho19
  go_wp2_with fail
  refine (dB (eqInt64S_yes _ _ _ _ rs _ _ _ (by omega) rx1_19.out.ints ry_19.out.ints)).mono ?_
  rintro e w20 ⟨rfl, hb20⟩
  have sz20 : w19.heap.size ≤ w20.heap.size := hb20.size
  have be20 := be19.trans (hb20.mono be19.size)
  have mA20 := ((bcell hb20).1 _ _ (by omega)).trans mA19
  have mB20 := ((bcell hb20).1 _ _ (by omega)).trans mB19
  have nA20 := ((bcell hb20).1 _ _ (by omega)).trans nA19
  have nB20 := ((bcell hb20).1 _ _ (by omega)).trans nB19
  clear mA19 mB19 nA19 nB19
  have rw0_20 := Lib.hid (rw0_19.out.later hb20)
  clear rw0_19
  have rx0_20 := Lib.hid (rx0_19.out.later hb20)
  clear rx0_19
  have rx1_20 := Lib.hid (rx1_19.out.later hb20)
  clear rx1_19
  have rx2_20 := Lib.hid (rx2_19.out.later hb20)
  clear rx2_19
  have rX2_20 := Lib.hid (rX2_19.out.below (hb20.mono (by omega)))
  clear rX2_19
  have rx3_20 := Lib.hid (rx3_19.out.later hb20)
  clear rx3_19
  have rx4_20 := Lib.hid (rx4_19.out.later hb20)
  clear rx4_19
  have rg0_20 := Lib.hid (rg0_19.out.later hb20)
  clear rg0_19
  have ry_20 := Lib.hid (ry_19.out.later hb20)
  clear ry_19
  clear hb20
  clear ry_20
  go_wp2_with fail
  refine (toFanS_w A2 c2 fs w.heap.size _ (by omega) lF (HI2.out.below be20) be20.size).mono ?_
  rintro e w21 ⟨rfl, ho21, hb21⟩
  have sz21 : w20.heap.size ≤ w21.heap.size := hb21.size
  have be21 := be20.trans (hb21.mono be20.size)
  have mA21 := ((bcell hb21).1 _ _ (by omega)).trans mA20
  have mB21 := ((bcell hb21).1 _ _ (by omega)).trans mB20
  have nA21 := ((bcell hb21).1 _ _ (by omega)).trans nA20
  have nB21 := ((bcell hb21).1 _ _ (by omega)).trans nB20
  clear mA20 mB20 nA20 nB20
  have rw0_21 := Lib.hid (rw0_20.out.later hb21)
  clear rw0_20
  have rx0_21 := Lib.hid (rx0_20.out.later hb21)
  clear rx0_20
  have rx1_21 := Lib.hid (rx1_20.out.later hb21)
  clear rx1_20
  have rx2_21 := Lib.hid (rx2_20.out.later hb21)
  clear rx2_20
  have rX2_21 := Lib.hid (rX2_20.out.below (hb21.mono (by omega)))
  clear rX2_20
  have rx3_21 := Lib.hid (rx3_20.out.later hb21)
  clear rx3_20
  have rx4_21 := Lib.hid (rx4_20.out.later hb21)
  clear rx4_20
  have rg0_21 := Lib.hid (rg0_20.out.later hb21)
  clear rg0_20
  clear hb21
  have ry_21 := Lib.hid (ho21.1.fns)
  clear ho21
  go_wp2_with fail
  refine (eqFanS_yes _ _ _ _ fs _ _ _ (by omega) lF rx2_21.out ry_21.out (Nat.le_refl _) (Nat.le_refl _)).mono ?_
  rintro e w22 ⟨rfl, hb22⟩
  have sz22 : w21.heap.size ≤ w22.heap.size := hb22.size
  have be22 := be21.trans (hb22.mono be21.size)
  have mA22 := ((bcell hb22).1 _ _ (by omega)).trans mA21
  have mB22 := ((bcell hb22).1 _ _ (by omega)).trans mB21
  have nA22 := ((bcell hb22).1 _ _ (by omega)).trans nA21
  have nB22 := ((bcell hb22).1 _ _ (by omega)).trans nB21
  clear mA21 mB21 nA21 nB21
  have rw0_22 := Lib.hid (rw0_21.out.later hb22)
  clear rw0_21
  have rx0_22 := Lib.hid (rx0_21.out.later hb22)
  clear rx0_21
  have rx1_22 := Lib.hid (rx1_21.out.later hb22)
  clear rx1_21
  have rx2_22 := Lib.hid (rx2_21.out.later hb22)
  clear rx2_21
  have rX2_22 := Lib.hid (rX2_21.out.below (hb22.mono (by omega)))
  clear rX2_21
  have rx3_22 := Lib.hid (rx3_21.out.later hb22)
  clear rx3_21
  have rx4_22 := Lib.hid (rx4_21.out.later hb22)
  clear rx4_21
  have rg0_22 := Lib.hid (rg0_21.out.later hb22)
  clear rg0_21
  have ry_22 := Lib.hid (ry_21.out.later hb22)
  clear ry_21
  clear hb22
  clear ry_22
  go_wp2_with fail
  refine (toInt64S_any A3 c3 dr w.heap.size _ (by omega) (HI3.out.below be22) be22.size).mono ?_
  rintro e w23 ⟨rfl, ho23, hb23⟩
  have sz23 : w22.heap.size ≤ w23.heap.size := hb23.size
  have be23 := be22.trans (hb23.mono be22.size)
  have mA23 := ((bcell hb23).1 _ _ (by omega)).trans mA22
  have mB23 := ((bcell hb23).1 _ _ (by omega)).trans mB22
  have nA23 := ((bcell hb23).1 _ _ (by omega)).trans nA22
  have nB23 := ((bcell hb23).1 _ _ (by omega)).trans nB22
  clear mA22 mB22 nA22 nB22
  have rw0_23 := Lib.hid (rw0_22.out.later hb23)
  clear rw0_22
  have rx0_23 := Lib.hid (rx0_22.out.later hb23)
  clear rx0_22
  have rx1_23 := Lib.hid (rx1_22.out.later hb23)
  clear rx1_22
  have rx2_23 := Lib.hid (rx2_22.out.later hb23)
  clear rx2_22
  have rX2_23 := Lib.hid (rX2_22.out.below (hb23.mono (by omega)))
  clear rX2_22
  have rx3_23 := Lib.hid (rx3_22.out.later hb23)
  clear rx3_22
  have rx4_23 := Lib.hid (rx4_22.out.later hb23)
  clear rx4_22
  have rg0_23 := Lib.hid (rg0_22.out.later hb23)
  clear rg0_22
  clear hb23
  have ry_23 := Lib.hid (ho23)
  clear ho23
  go_wp2_with fail
  refine (dB (eqInt64S_yes _ _ _ _ dr _ _ _ (by omega) rx3_23.out.ints ry_23.out.ints)).mono ?_
  rintro e w24 ⟨rfl, hb24⟩
  have sz24 : w23.heap.size ≤ w24.heap.size := hb24.size
  have be24 := be23.trans (hb24.mono be23.size)
  have mA24 := ((bcell hb24).1 _ _ (by omega)).trans mA23
  have mB24 := ((bcell hb24).1 _ _ (by omega)).trans mB23
  have nA24 := ((bcell hb24).1 _ _ (by omega)).trans nA23
  have nB24 := ((bcell hb24).1 _ _ (by omega)).trans nB23
  clear mA23 mB23 nA23 nB23
  have rw0_24 := Lib.hid (rw0_23.out.later hb24)
  clear rw0_23
  have rx0_24 := Lib.hid (rx0_23.out.later hb24)
  clear rx0_23
  have rx1_24 := Lib.hid (rx1_23.out.later hb24)
  clear rx1_23
  have rx2_24 := Lib.hid (rx2_23.out.later hb24)
  clear rx2_23
  have rX2_24 := Lib.hid (rX2_23.out.below (hb24.mono (by omega)))
  clear rX2_23
  have rx3_24 := Lib.hid (rx3_23.out.later hb24)
  clear rx3_23
  have rx4_24 := Lib.hid (rx4_23.out.later hb24)
  clear rx4_23
  have rg0_24 := Lib.hid (rg0_23.out.later hb24)
  clear rg0_23
  have ry_24 := Lib.hid (ry_23.out.later hb24)
  clear ry_23
  clear hb24
  clear ry_24
  go_wp2_with fail
  refine (toInt64S_any A4 c4 st w.heap.size _ (by omega) (HI4.out.below be24) be24.size).mono ?_
  rintro e w25 ⟨rfl, ho25, hb25⟩
  have sz25 : w24.heap.size ≤ w25.heap.size := hb25.size
  have be25 := be24.trans (hb25.mono be24.size)
  have mA25 := ((bcell hb25).1 _ _ (by omega)).trans mA24
  have mB25 := ((bcell hb25).1 _ _ (by omega)).trans mB24
  have nA25 := ((bcell hb25).1 _ _ (by omega)).trans nA24
  have nB25 := ((bcell hb25).1 _ _ (by omega)).trans nB24
  clear mA24 mB24 nA24 nB24
  have rw0_25 := Lib.hid (rw0_24.out.later hb25)
  clear rw0_24
  have rx0_25 := Lib.hid (rx0_24.out.later hb25)
  clear rx0_24
  have rx1_25 := Lib.hid (rx1_24.out.later hb25)
  clear rx1_24
  have rx2_25 := Lib.hid (rx2_24.out.later hb25)
  clear rx2_24
  have rX2_25 := Lib.hid (rX2_24.out.below (hb25.mono (by omega)))
  clear rX2_24
  have rx3_25 := Lib.hid (rx3_24.out.later hb25)
  clear rx3_24
  have rx4_25 := Lib.hid (rx4_24.out.later hb25)
  clear rx4_24
  have rg0_25 := Lib.hid (rg0_24.out.later hb25)
  clear rg0_24
  clear hb25
  have ry_25 := Lib.hid (ho25)
  clear ho25
  go_wp2_with fail
  refine (dB (eqInt64S_yes _ _ _ _ st _ _ _ (by omega) rx4_25.out.ints ry_25.out.ints)).mono ?_
  rintro e w26 ⟨rfl, hb26⟩
  have sz26 : w25.heap.size ≤ w26.heap.size := hb26.size
  have be26 := be25.trans (hb26.mono be25.size)
  have mA26 := ((bcell hb26).1 _ _ (by omega)).trans mA25
  have mB26 := ((bcell hb26).1 _ _ (by omega)).trans mB25
  have nA26 := ((bcell hb26).1 _ _ (by omega)).trans nA25
  have nB26 := ((bcell hb26).1 _ _ (by omega)).trans nB25
  clear mA25 mB25 nA25 nB25
  have rw0_26 := Lib.hid (rw0_25.out.later hb26)
  clear rw0_25
  have rx0_26 := Lib.hid (rx0_25.out.later hb26)
  clear rx0_25
  have rx1_26 := Lib.hid (rx1_25.out.later hb26)
  clear rx1_25
  have rx2_26 := Lib.hid (rx2_25.out.later hb26)
  clear rx2_25
  have rX2_26 := Lib.hid (rX2_25.out.below (hb26.mono (by omega)))
  clear rX2_25
  have rx3_26 := Lib.hid (rx3_25.out.later hb26)
  clear rx3_25
  have rx4_26 := Lib.hid (rx4_25.out.later hb26)
  clear rx4_25
  have rg0_26 := Lib.hid (rg0_25.out.later hb26)
  clear rg0_25
  have ry_26 := Lib.hid (ry_25.out.later hb26)
  clear ry_25
  clear hb26
  clear ry_26
  clear rx2_26
  go_wp2_with fail
  refine (markMine_own J _ xs0 1 _ _ (by omega) (by omega) (by omega) rx0_26.out).mono ?_
  rintro e w27 ⟨rfl, _, hg27⟩
  have sz27 : w26.heap.size ≤ w27.heap.size := hg27.size
  have be27 : Below w.heap.size w w27 := be26.grown hg27 be26.size (fun g h => by have := (ux0.out g h).1; omega)
  have mA27 := hg27.cell mA26 (fun e => by have := (ux0.out _ e.symm).1; simp at this; omega)
  have mB27 := hg27.cell mB26 (fun e => by have := (ux0.out _ e.symm).1; simp at this; omega)
  clear mA26 mB26
  have rw0_27 := Lib.hid (rw0_26.out.kept hg27 (apart_of uw0.out ux0.out (by omega)))
  clear rw0_26
  have rx1_27 := Lib.hid (rx1_26.out.kept hg27 (apart_of ux1.out ux0.out (by omega)))
  clear rx1_26
  have rX2_27 := Lib.hid (rX2_26.out.kept hg27 (by omega) (fun g h => by have := ux0.out g h; omega))
  clear rX2_26
  have rx3_27 := Lib.hid (rx3_26.out.kept hg27 (apart_of ux3.out ux0.out (by omega)))
  clear rx3_26
  have rx4_27 := Lib.hid (rx4_26.out.kept hg27 (apart_of ux4.out ux0.out (by omega)))
  clear rx4_26
  have rg0_27 := Lib.hid (rg0_26.out.kept hg27 (apart_of ug0.out ux0.out (by omega)))
  clear rg0_26
  clear hg27
  go_wp2_with fail
  refine (markInt64S_own _ _ _ rs (1 + 7 * (xs0.length : Int)) _ _ (by omega) (by omega) (by omega) rfl rx1_27.out).mono ?_
  rintro e w28 ⟨rfl, _, hg28⟩
  have sz28 : w27.heap.size ≤ w28.heap.size := hg28.size
  have be28 : Below w.heap.size w w28 := be27.grown hg28 be27.size (fun g h => by have := (ux1.out g h).1; omega)
  have mA28 := hg28.cell mA27 (fun e => by have := (ux1.out _ e.symm).1; simp at this; omega)
  have mB28 := hg28.cell mB27 (fun e => by have := (ux1.out _ e.symm).1; simp at this; omega)
  clear mA27 mB27
  have rw0_28 := Lib.hid (rw0_27.out.kept hg28 (apart_of uw0.out ux1.out (by omega)))
  clear rw0_27
  have rX2_28 := Lib.hid (rX2_27.out.kept hg28 (by omega) (fun g h => by have := ux1.out g h; omega))
  clear rX2_27
  have rx3_28 := Lib.hid (rx3_27.out.kept hg28 (apart_of ux3.out ux1.out (by omega)))
  clear rx3_27
  have rx4_28 := Lib.hid (rx4_27.out.kept hg28 (apart_of ux4.out ux1.out (by omega)))
  clear rx4_27
  have rg0_28 := Lib.hid (rg0_27.out.kept hg28 (apart_of ug0.out ux1.out (by omega)))
  clear rg0_27
  clear hg28
  go_wp2_with fail
  refine (markFanS_z w11.heap.size w12.heap.size _ _ fs (1 + 7 * (xs0.length : Int) + (rs.length : Int)) _ (by omega) lF (by omega) (by omega) rX2_28.out).mono ?_
  clear rX2_28
  rintro e w29 ⟨rfl, hz29⟩
  have sz29 : w28.heap.size ≤ w29.heap.size := hz29.size
  have be29 : Below w.heap.size w w29 := hz29.below be28 be28.size (by omega)
  have mA29 := (World.cell?_of_block (hz29.block w.heap.size (by omega) (.inl (by omega)))).trans mA28
  have mB29 := (World.cell?_of_block (hz29.block w.heap.size (by omega) (.inl (by omega)))).trans mB28
  clear mA28 mB28
  have rw0_29 := Lib.hid (rw0_28.out.zone hz29 uw0.out (by omega))
  clear rw0_28
  have rx3_29 := Lib.hid (rx3_28.out.zone hz29 ux3.out (by omega))
  clear rx3_28
  have rx4_29 := Lib.hid (rx4_28.out.zone hz29 ux4.out (by omega))
  clear rx4_28
  have rg0_29 := Lib.hid (rg0_28.out.zone hz29 ug0.out (by omega))
  clear rg0_28
  clear hz29
  go_wp2_with fail
  refine (markInt64S_own _ _ _ dr (1 + 7 * (xs0.length : Int) + (rs.length : Int) + cntF fs fs.length) _ _ (by omega) (by omega) (by omega) rfl rx3_29.out).mono ?_
  rintro e w30 ⟨rfl, _, hg30⟩
  have sz30 : w29.heap.size ≤ w30.heap.size := hg30.size
  have be30 : Below w.heap.size w w30 := be29.grown hg30 be29.size (fun g h => by have := (ux3.out g h).1; omega)
  have mA30 := hg30.cell mA29 (fun e => by have := (ux3.out _ e.symm).1; simp at this; omega)
  have mB30 := hg30.cell mB29 (fun e => by have := (ux3.out _ e.symm).1; simp at this; omega)
  clear mA29 mB29
  have rw0_30 := Lib.hid (rw0_29.out.kept hg30 (apart_of uw0.out ux3.out (by omega)))
  clear rw0_29
  have rx4_30 := Lib.hid (rx4_29.out.kept hg30 (apart_of ux4.out ux3.out (by omega)))
  clear rx4_29
  have rg0_30 := Lib.hid (rg0_29.out.kept hg30 (apart_of ug0.out ux3.out (by omega)))
  clear rg0_29
  clear hg30
  go_wp2_with fail
  refine (markInt64S_own _ _ _ st (1 + 7 * (xs0.length : Int) + (rs.length : Int) + cntF fs fs.length + (dr.length : Int)) _ _ (by omega) (by omega) (by omega) rfl rx4_30.out).mono ?_
  rintro e w31 ⟨rfl, _, hg31⟩
  have sz31 : w30.heap.size ≤ w31.heap.size := hg31.size
  have be31 : Below w.heap.size w w31 := be30.grown hg31 be30.size (fun g h => by have := (ux4.out g h).1; omega)
  have mA31 := hg31.cell mA30 (fun e => by have := (ux4.out _ e.symm).1; simp at this; omega)
  have mB31 := hg31.cell mB30 (fun e => by have := (ux4.out _ e.symm).1; simp at this; omega)
  clear mA30 mB30
  have rw0_31 := Lib.hid (rw0_30.out.kept hg31 (apart_of uw0.out ux4.out (by omega)))
  clear rw0_30
  have rg0_31 := Lib.hid (rg0_30.out.kept hg31 (apart_of ug0.out ux4.out (by omega)))
  clear rg0_30
  clear hg31
  go_wp2_with fail
  refine (dB (eqInt64S_yes _ _ _ _ R.1 _ _ _ (by omega) rg0_31.out.ints rw0_31.out.ints)).mono ?_
  rintro e w32 ⟨rfl, hb32⟩
  have sz32 : w31.heap.size ≤ w32.heap.size := hb32.size
  have be32 := be31.trans (hb32.mono be31.size)
  have mA32 := ((bcell hb32).1 _ _ (by omega)).trans mA31
  have mB32 := ((bcell hb32).1 _ _ (by omega)).trans mB31
  clear mA31 mB31
  have rw0_32 := Lib.hid (rw0_31.out.later hb32)
  clear rw0_31
  have rg0_32 := Lib.hid (rg0_31.out.later hb32)
  clear rg0_31
  clear hb32
  go_wp2_with fail
  refine (markInt64S_own _ _ _ R.1 1 _ _ (by omega) (by omega) (by omega) rfl rg0_32.out).mono ?_
  rintro e w33 ⟨rfl, hp33, hg33⟩
  have sz33 : w32.heap.size ≤ w33.heap.size := hg33.size
  have be33 : Below w.heap.size w w33 := be32.grown hg33 be32.size (fun g h => by have := (ug0.out g h).1; omega)
  have mA33 := hg33.cell mA32 (fun e => by have := (ug0.out _ e.symm).1; simp at this; omega)
  have mB33 := hg33.cell mB32 (fun e => by have := (ug0.out _ e.symm).1; simp at this; omega)
  clear mA32 mB32
  have rw0_33 := Lib.hid (rw0_32.out.kept hg33 (apart_of uw0.out ug0.out (by omega)))
  clear rw0_32
  clear hg33
  have rp0_33 := Lib.hid hp33
  clear hp33
  go_wp2_with fail
  refine (sB (heldInt64S_any _ _ R.1.length 1 _ _ (by omega) (by omega) (by omega) rp0_33.out.ints)).mono ?_
  rintro e w34 ⟨rfl, hb34⟩
  have sz34 : w33.heap.size ≤ w34.heap.size := hb34.size
  have be34 := be33.trans (hb34.mono be33.size)
  have mA34 := ((bcell hb34).1 _ _ (by omega)).trans mA33
  have mB34 := ((bcell hb34).1 _ _ (by omega)).trans mB33
  clear mA33 mB33
  have rw0_34 := Lib.hid (rw0_33.out.later hb34)
  clear rw0_33
  have rp0_34 := Lib.hid (rp0_33.out.later hb34)
  clear rp0_33
  clear hb34
  go_wp2_with fail
  refine (toMine_any J A0 c0 xs0 w.heap.size _ (by omega) (HI0.out.below be34) be34.size).mono ?_
  rintro e w35 ⟨v35, rfl, ho35, hb35⟩
  have sz35 : w34.heap.size ≤ w35.heap.size := hb35.size
  have be35 := be34.trans (hb35.mono be34.size)
  have mA35 := ((bcell hb35).1 _ _ (by omega)).trans mA34
  have mB35 := ((bcell hb35).1 _ _ (by omega)).trans mB34
  clear mA34 mB34
  have rw0_35 := Lib.hid (rw0_34.out.later hb35)
  clear rw0_34
  have rp0_35 := Lib.hid (rp0_34.out.later hb35)
  clear rp0_34
  clear hb35
  obtain ⟨A_35, c_35, rfl, -, -⟩ := ho35.slice encA_len
  have rh0_35 := Lib.hid (ho35)
  clear ho35
  go_wp2_with fail
  refine (toInt64S_any A1 c1 rs w.heap.size _ (by omega) (HI1.out.below be35) be35.size).mono ?_
  rintro e w36 ⟨rfl, ho36, hb36⟩
  have sz36 : w35.heap.size ≤ w36.heap.size := hb36.size
  have be36 := be35.trans (hb36.mono be35.size)
  have mA36 := ((bcell hb36).1 _ _ (by omega)).trans mA35
  have mB36 := ((bcell hb36).1 _ _ (by omega)).trans mB35
  clear mA35 mB35
  have rw0_36 := Lib.hid (rw0_35.out.later hb36)
  clear rw0_35
  have rp0_36 := Lib.hid (rp0_35.out.later hb36)
  clear rp0_35
  have rh0_36 := Lib.hid (rh0_35.out.later hb36)
  clear rh0_35
  clear hb36
  have rh1_36 := Lib.hid (ho36)
  clear ho36
  go_wp2_with fail
  refine (toFanS_w A2 c2 fs w.heap.size _ (by omega) lF (HI2.out.below be36) be36.size).mono ?_
  rintro e w37 ⟨rfl, ho37, hb37⟩
  have sz37 : w36.heap.size ≤ w37.heap.size := hb37.size
  have be37 := be36.trans (hb37.mono be36.size)
  have mA37 := ((bcell hb37).1 _ _ (by omega)).trans mA36
  have mB37 := ((bcell hb37).1 _ _ (by omega)).trans mB36
  clear mA36 mB36
  have rw0_37 := Lib.hid (rw0_36.out.later hb37)
  clear rw0_36
  have rp0_37 := Lib.hid (rp0_36.out.later hb37)
  clear rp0_36
  have rh0_37 := Lib.hid (rh0_36.out.later hb37)
  clear rh0_36
  have rh1_37 := Lib.hid (rh1_36.out.later hb37)
  clear rh1_36
  clear hb37
  have rh2_37 := Lib.hid (ho37.1.fns)
  clear ho37
  go_wp2_with fail
  refine (toInt64S_any A3 c3 dr w.heap.size _ (by omega) (HI3.out.below be37) be37.size).mono ?_
  rintro e w38 ⟨rfl, ho38, hb38⟩
  have sz38 : w37.heap.size ≤ w38.heap.size := hb38.size
  have be38 := be37.trans (hb38.mono be37.size)
  have mA38 := ((bcell hb38).1 _ _ (by omega)).trans mA37
  have mB38 := ((bcell hb38).1 _ _ (by omega)).trans mB37
  clear mA37 mB37
  have rw0_38 := Lib.hid (rw0_37.out.later hb38)
  clear rw0_37
  have rp0_38 := Lib.hid (rp0_37.out.later hb38)
  clear rp0_37
  have rh0_38 := Lib.hid (rh0_37.out.later hb38)
  clear rh0_37
  have rh1_38 := Lib.hid (rh1_37.out.later hb38)
  clear rh1_37
  have rh2_38 := Lib.hid (rh2_37.out.later hb38)
  clear rh2_37
  clear hb38
  have rh3_38 := Lib.hid (ho38)
  clear ho38
  go_wp2_with fail
  refine (toInt64S_any A4 c4 st w.heap.size _ (by omega) (HI4.out.below be38) be38.size).mono ?_
  rintro e w39 ⟨rfl, ho39, hb39⟩
  have sz39 : w38.heap.size ≤ w39.heap.size := hb39.size
  have be39 := be38.trans (hb39.mono be38.size)
  have mA39 := ((bcell hb39).1 _ _ (by omega)).trans mA38
  have mB39 := ((bcell hb39).1 _ _ (by omega)).trans mB38
  clear mA38 mB38
  have rw0_39 := Lib.hid (rw0_38.out.later hb39)
  clear rw0_38
  have rp0_39 := Lib.hid (rp0_38.out.later hb39)
  clear rp0_38
  have rh0_39 := Lib.hid (rh0_38.out.later hb39)
  clear rh0_38
  have rh1_39 := Lib.hid (rh1_38.out.later hb39)
  clear rh1_38
  have rh2_39 := Lib.hid (rh2_38.out.later hb39)
  clear rh2_38
  have rh3_39 := Lib.hid (rh3_38.out.later hb39)
  clear rh3_38
  clear hb39
  have rh4_39 := Lib.hid (ho39)
  clear ho39
  go_wp2_with fail
  have CC40 := ReversalTable_i J _ c_35 xs0 _ rs.length rs _ fs.length fs _ dr.length dr _ st.length st tol rds aw sp ct _ (by omega) (by omega) (by omega) (by omega) (by omega) HF0.out HT1.out HF2.out lF HT3.out HT4.out (rh0_39.out.rows encA_len) rh1_39.out.ints rh2_39.out rh3_39.out.ints rh4_39.out.ints
  rw [← HRR.out] at CC40
  refine CC40.mono ?_
  clear CC40
  rintro e w40 ⟨v40, rfl, ho40, hb40⟩
  have sz40 : w39.heap.size ≤ w40.heap.size := hb40.size
  have be40 := be39.trans (hb40.mono be39.size)
  have mA40 := ((bcell hb40).1 _ _ (by omega)).trans mA39
  have mB40 := ((bcell hb40).1 _ _ (by omega)).trans mB39
  clear mA39 mB39
  have rw0_40 := Lib.hid (rw0_39.out.later hb40)
  clear rw0_39
  have rp0_40 := Lib.hid (rp0_39.out.later hb40)
  clear rp0_39
  have rh0_40 := Lib.hid (rh0_39.out.later hb40)
  clear rh0_39
  have rh1_40 := Lib.hid (rh1_39.out.later hb40)
  clear rh1_39
  have rh2_40 := Lib.hid (rh2_39.out.later hb40)
  clear rh2_39
  have rh3_40 := Lib.hid (rh3_39.out.later hb40)
  clear rh3_39
  have rh4_40 := Lib.hid (rh4_39.out.later hb40)
  clear rh4_39
  clear hb40
  obtain ⟨A_40, c_40, rfl, -, -⟩ := ho40.slice
  clear rh0_40 rh1_40 rh2_40 rh3_40 rh4_40
  have rh_40 := Lib.hid (ho40)
  clear ho40
  go_wp2_with fail
  refine (dB (eqInt64S_yes _ _ _ _ R.1 _ _ _ (by omega) rh_40.out.ints rw0_40.out.ints)).mono ?_
  rintro e w41 ⟨rfl, hb41⟩
  have sz41 : w40.heap.size ≤ w41.heap.size := hb41.size
  have be41 := be40.trans (hb41.mono be40.size)
  have mA41 := ((bcell hb41).1 _ _ (by omega)).trans mA40
  have mB41 := ((bcell hb41).1 _ _ (by omega)).trans mB40
  clear mA40 mB40
  have rw0_41 := Lib.hid (rw0_40.out.later hb41)
  clear rw0_40
  have rp0_41 := Lib.hid (rp0_40.out.later hb41)
  clear rp0_40
  have rh_41 := Lib.hid (rh_40.out.later hb41)
  clear rh_40
  clear hb41
  go_wp2_with fail
  refine (sB (heldInt64S_any _ _ R.1.length 1 _ _ (by omega) (by omega) (by omega) rp0_41.out.ints)).mono ?_
  rintro e w42 ⟨rfl, hb42⟩
  have sz42 : w41.heap.size ≤ w42.heap.size := hb42.size
  have be42 := be41.trans (hb42.mono be41.size)
  have mA42 := ((bcell hb42).1 _ _ (by omega)).trans mA41
  have mB42 := ((bcell hb42).1 _ _ (by omega)).trans mB41
  clear mA41 mB41
  have rw0_42 := Lib.hid (rw0_41.out.later hb42)
  clear rw0_41
  have rp0_42 := Lib.hid (rp0_41.out.later hb42)
  clear rp0_41
  have rh_42 := Lib.hid (rh_41.out.later hb42)
  clear rh_41
  clear hb42
  go_wp2_with fail
  go_ret
  exact ⟨rfl, be42⟩
end Go.Proofs.YtejkoicgbgoiaaaGreat
