/- Proved here: the parts NetE, FloP, Err, Errs, NetM, Prs, OwnS of the row's proof, joined by a program. Conditions: as each part says. -/
import Derived.Test.YtejkoicgbgoiaaaGreatFm7
import Derived.BigQuiet
import Derived.Deep.RegionHeld3
/- Networks: the spanning forest, by the program. Conditions: the facts on memory and on lengths that each theorem names. -/
namespace Go.Proofs.YtejkoicgbgoiaaaGreat
open Go.RowKit
open Pl
theorem treeL_step (N : Nat) (xs : List Aw) (k : Nat) (R : List Int) (F T : Nat) (hm : mineB (N : Int) xs = true) (hk : k < xs.length) (hF : (xs.getD k aNone).f = F) (hT : (xs.getD k aNone).t = T) (hTN : T < N) (h : Fnd N (edsA xs (treeL N xs k)) (F : Int) R) :
    treeL N xs (k + 1) = if R.contains (T : Int) = true then treeL N xs k else treeL N xs k ++ [(k : Int)] := by
  have e : treeL N xs (k + 1) = if lab N (edsA xs (treeL N xs k)) (xs.getD k aNone).f = lab N (edsA xs (treeL N xs k)) (xs.getD k aNone).t then treeL N xs k else treeL N xs k ++ [(k : Int)] := rfl
  have hi := h.lab_iff (edsA_in hm ((treeL_ok N xs k).more (by omega))) (y := (T : Int)) (by omega) (by omega)
  rw [e, hF, hT]
  have hc : R.contains (T : Int) = true ↔ (T : Int) ∈ R := by simp
  by_cases hl : lab N (edsA xs (treeL N xs k)) (F : Int) = lab N (edsA xs (treeL N xs k)) (T : Int)
  · rw [if_pos hl, if_pos (hc.2 (hi.2 hl))]
  · rw [if_neg hl, if_neg (fun h' => hl (hi.1 (hc.1 h')))]
set_option maxRecDepth 100000 in
set_option maxHeartbeats 3200000 in
theorem tree_any (N : Nat) (A : Option Addr) (cp : Nat) (xs : List Aw) (w : World) (hI : Recs encA 7 w.heap.size w A xs) (hm : mineB (N : Int) xs = true) :
    Calls Tryz.prog 126 #[.agg #[.int .i64 (N : Int), .slice A xs.length cp]] w fun e w' => ∃ u, e = .returned u ∧ Own w.heap.size w' u (forest N xs) ∧ Below w.heap.size w w' := by
  obtain ⟨⟨n1, n2⟩, nx, _⟩ := mineB_bd hm
  have HM := Lib.hid hm
  have HE := Lib.hid (fun p (hp : p < xs.length) => mine_ends hm hp)
  have hN1 : 1 ≤ N := by omega
  have hN2 : N ≤ 16 := by omega
  have hxn : xs.length ≤ 24 := by omega
  obtain ⟨i0, hi, hz0, hz1, hz2⟩ := info_parts infoI
  have HF := Lib.hid (And.intro hi (And.intro hz0 (And.intro hz1 hz2)))
  have be0 : Below w.heap.size w (w.alloc (.cells #[.int .i64 (N : Int), .slice A xs.length cp] 33)) := by go_grown
  have k0 : (w.alloc (.cells #[.int .i64 (N : Int), .slice A xs.length cp] 33)).cell? ⟨w.heap.size, 0, none⟩ = some (.int .i64 (N : Int)) := by go_simp
  have k1 : (w.alloc (.cells #[.int .i64 (N : Int), .slice A xs.length cp] 33)).cell? ⟨w.heap.size, 1, none⟩ = some (.slice A xs.length cp) := by go_simp
  have K0 := Lib.hid k0
  have K1 := Lib.hid k1
  have J0 := Lib.hid ((hI.below be0).more be0.size)
  have hwl : w.heap.size < (w.alloc (.cells #[.int .i64 (N : Int), .slice A xs.length cp] 33)).heap.size := by simp
  clear hI hm n1 n2 nx hi hz0 hz1 hz2 k0 k1
  go_enter Tryz.func126, Tryz.ntmps126
  go_wp2_with fail
  generalize hw0 : (w.alloc (.cells #[.int .i64 (N : Int), .slice A xs.length cp] 33)) = w0 at *
  clear hw0
  go_loopw [3, 9] (fun u kk wr => ∃ k : Nat, k ≤ xs.length ∧ kk = .int .i64 k ∧ Below w0.heap.size w0 wr ∧ Own w0.heap.size wr u (treeL N xs k)) (fun _ kk _ => xs.length - (intOf kk).toNat)
  case atStart => exact ⟨0, Nat.zero_le _, rfl, Below.refl _ _, Own.nil_ _ _⟩
  case round =>
    obtain ⟨k, hk, rfl, hb, ho⟩ := hrel
    have m0 := cell_later hb K0.out
    have m1 := cell_later hb K1.out
    have htl := treeL_length N xs k
    obtain ⟨AV, cv, hv, -, -⟩ := ho.slice
    by_cases hlt : k < xs.length
    · obtain ⟨F, T, hF, hT, hFN, hTN, _⟩ := HE.out k hlt
      have HST := Lib.hid (fun R h => treeL_step N xs k R F T HM.out hlt hF hT hTN h)
      have HOK := Lib.hid ((treeL_ok N xs k).more (n' := xs.length) (by omega))
      obtain ⟨⟨s, f, t, l, c, r, q⟩, hax⟩ : ∃ x, xs.getD k aNone = x := ⟨_, rfl⟩
      obtain ⟨b, o, hA, hab, c0, c1, c2, c3, c4, c5, c6⟩ := (J0.out.below hb).cells7 hlt hax
      subst hA
      rw [hax] at hF hT
      have hF : f = (F : Int) := hF
      have hT : t = (T : Int) := hT
      subst hF hT
      have i0' : (0 : Int) ≤ (k : Int) := by omega
      have i1' : (k : Int) < xs.length := by omega
      have hsz := hb.size
      have hba : Below wr.heap.size wr (wr.alloc (.cells #[.string s, .int .i64 (F : Int), .int .i64 (T : Int), .int .i64 l, .int .i64 c, .int .i64 r, .int .i64 q] 99)) := (Below.refl _ _).alloc (Nat.le_refl _) _
      have a1 : ((wr.alloc (.cells #[.string s, .int .i64 (F : Int), .int .i64 (T : Int), .int .i64 l, .int .i64 c, .int .i64 r, .int .i64 q] 99))).cell? ⟨wr.heap.size, 1, none⟩ = some (.int .i64 (F : Int)) := by go_simp
      have a2 : ((wr.alloc (.cells #[.string s, .int .i64 (F : Int), .int .i64 (T : Int), .int .i64 l, .int .i64 c, .int .i64 r, .int .i64 q] 99))).cell? ⟨wr.heap.size, 2, none⟩ = some (.int .i64 (T : Int)) := by go_simp
      have hla : wr.heap.size < ((wr.alloc (.cells #[.string s, .int .i64 (F : Int), .int .i64 (T : Int), .int .i64 l, .int .i64 c, .int .i64 r, .int .i64 q] 99))).heap.size := by simp
      have HO := Lib.hid ho
      subst hv
      clear ho hax
      go_wp2_with fail
      have m0' := cell_later hba m0
      have m1' := cell_later hba m1
      have hbw : Below w0.heap.size w0 (wr.alloc (.cells #[.string s, .int .i64 (F : Int), .int .i64 (T : Int), .int .i64 l, .int .i64 c, .int .i64 r, .int .i64 q] 99)) := hb.trans (hba.mono hsz)
      have HO2 := Lib.hid (HO.out.later hba)
      generalize (wr.alloc (.cells #[.string s, .int .i64 (F : Int), .int .i64 (T : Int), .int .i64 l, .int .i64 c, .int .i64 r, .int .i64 q] 99)) = wa at *
      generalize htr : treeL N xs k = tr at *
      clear c0 c1 c2 c3 c4 c5 c6 m0 m1 hba
      go_region_held3 (fun w' => (w'.cell? ⟨w.heap.size, 0, none⟩ = some (.int .i64 (N : Int)) ∧ w'.cell? ⟨w.heap.size, 1, none⟩ = some (.slice (some ⟨b, o, none⟩) xs.length cp)) ∧ (w'.cell? ⟨wr.heap.size, 1, none⟩ = some (.int .i64 (F : Int)) ∧ w'.cell? ⟨wr.heap.size, 2, none⟩ = some (.int .i64 (T : Int))))
        (first
          | go_keep
          | exact ⟨⟨((bcell hb3).1 _ _ (by simp <;> omega)).trans m0', ((bcell hb3).1 _ _ (by simp <;> omega)).trans m1'⟩, ((bcell hb3).1 _ _ (by simp <;> omega)).trans a1, ((bcell hb3).1 _ _ (by simp <;> omega)).trans a2⟩)
        (first
          | (go_at_call 159; refine (reached_any N (some ⟨b, o, none⟩) cp xs F AV cv tr _ (by first | exact (J0.out.below hbw).more hbw.size | exact (J0.out.below hbw.drew).more hbw.drew.size) HM.out (by first | exact HO2.out.ints | exact (HO2.out.later (Below.refl _ _).drew).ints) HOK.out (by omega) hFN).mono ?_; rintro e w3 ⟨u3, R3, rfl, ho3, hf3, hl3, hb3⟩; obtain ⟨A3, cc3, rfl, hi3, -⟩ := ho3.slice; obtain ⟨cb, hcb⟩ : ∃ cb, R3.contains (T : Int) = cb := ⟨_, rfl⟩; have HS3 := Lib.hid (hcb ▸ HST.out R3 hf3); have HCC := Lib.hid (fun W hI => eqb (Contains_any A3 cc3 R3 (T : Int) w3.heap.size W (by omega) hI) hcb); clear hf3 hcb)
          | (go_at_call 127; refine (HCC.out _ hi3).mono ?_; rintro e w' ⟨rfl, rfl⟩))
      have hcx : Below wa.heap.size wa w3 := ((Below.refl wa.heap.size wa).drew).trans (hb3.mono (by simp))
      have hbw3 : Below w0.heap.size w0 w3 := hbw.trans (hcx.mono hbw.size)
      have HO3 := Lib.hid (HO2.out.later hcx)
      have hsz3 := hbw3.size
      clear m0' m1' a1 a2 hb3 hcx ho3 hi3 hl3
      clear HCC
      cases cb
      · have HS4 : Hid (treeL N xs (k + 1) = tr ++ [(k : Int)]) := Lib.hid (by rw [HS3.out]; rfl)
        clear HS3
        go_wp2_with (at_builtin; refine wpList_append_own_at _ rfl _ _ 25 rfl w0.heap.size 2 i0 (.int .i64 0) 1 8 Tryz.underlying25 HF.out.1 HF.out.2.1 HF.out.2.2.1 HF.out.2.2.2 rfl (by decide) _ _ _ rfl (HO3.out.later ((Below.refl _ _).alloc (Nat.le_refl _) _)) ⟨w3.heap.size, 0, none⟩ 1 1 [.int .i64 (k : Int)] rfl rfl (cell_one_new _ _ _) (by intro u hu; simp at hu; subst hu; rfl) (le_max (by omega)) (by omega) (by simp; omega) ?_; intro av aw ah ag an aa)
        have hbe2 : Below w0.heap.size w0 aw := Below.appended hbw3 HO3.out hsz3 ag
        have ho' := Own.appended ah
        clear ah ag an aa
        have HO4 := Lib.hid ho'
        clear ho'
        go_wp2
        go_roundw
        case rel => exact ⟨k + 1, by omega, by go_num, hbe2, by rw [HS4.out]; exact HO4.out⟩
        case measure => simp [intOf]; omega
      · have HS4 : Hid (treeL N xs (k + 1) = tr) := Lib.hid (by rw [HS3.out]; rfl)
        clear HS3
        go_wp2_with fail
        go_roundw
        case rel => exact ⟨k + 1, by omega, by go_num, hbw3, by rw [HS4.out]; exact HO3.out⟩
        case measure => simp [intOf]; omega
    · obtain rfl : k = xs.length := by omega
      have HO := Lib.hid ho
      clear ho
      go_wp2
      go_ret
      exact ⟨_, rfl, HO.out.base (fun g h => by have := (World.ownsRow.lt HO.out g h).1; omega), be0.trans (hb.mono be0.size)⟩
end Go.Proofs.YtejkoicgbgoiaaaGreat

/- Flows, with no program in sight: the pressure of a fan, the pushes of all airways, the error of a walk, the step, a root, the rounds that make the errors small. No conditions beyond those that each lemma names. -/
namespace Go.Proofs.YtejkoicgbgoiaaaGreat
open Pl
/-! ### A number on a line through two points, or that of the nearer end -/
def linF (x0 y0 x1 y1 x : Int) : Int := if x ≤ x0 ∨ x1 ≤ x0 then y0 else if x1 ≤ x then y1 else y0 + divR ((y1 - y0) * (x - x0)) (x1 - x0)
theorem linF_bd {x0 y0 x1 y1 x : Int} (h1 : y1 ≤ y0) : y1 ≤ linF x0 y0 x1 y1 x ∧ linF x0 y0 x1 y1 x ≤ y0 := by
  unfold linF
  split
  · omega
  · split
    · omega
    · rename_i h2 h3
      have hb : 0 < x1 - x0 := by omega
      obtain ⟨c, hc⟩ : ∃ c, c = y0 - y1 := ⟨_, rfl⟩
      obtain ⟨d, hd⟩ : ∃ d, d = x - x0 := ⟨_, rfl⟩
      obtain ⟨b, hbb⟩ : ∃ b, b = x1 - x0 := ⟨_, rfl⟩
      have e : (y1 - y0) * (x - x0) = -(c * d) := by
        rw [hc, hd, ← Int.neg_mul]; congr 1; omega
      rw [e, ← hbb]
      have c0 : 0 ≤ c := by omega
      have h4 : 0 ≤ c * d := Int.mul_nonneg c0 (by omega)
      have h5 : c * d ≤ c * b := Int.mul_le_mul_of_nonneg_left (by omega) c0
      have h6 := divR_nonpos (a := -(c * d)) (b := b) (by omega) (by omega)
      have h7 : (2 * c + 1) * b = 2 * (c * b) + b := by rw [Int.add_mul, Int.one_mul, Int.mul_assoc]
      have h8 := le_divR (a := -(c * d)) (b := b) (c := c) (by omega) (by rw [h7]; omega) c0
      omega
/-! ### A fan's pressure -/
def scanF (cv : List (List Int)) (q : Int) : Nat → Nat → Int
  | 0, k => linF (at2 cv (k - 1) 0) (at2 cv (k - 1) 1) (at2 cv k 0) (at2 cv k 1) q
  | n + 1, k => if at2 cv k 0 < q then scanF cv q n (k + 1) else linF (at2 cv (k - 1) 0) (at2 cv (k - 1) 1) (at2 cv k 0) (at2 cv k 1) q
def pressF (cv : List (List Int)) (q : Int) : Int := scanF cv q (cv.length - 2) 1
/-- What a valid curve says of its points. -/
structure Curved (cv : List (List Int)) : Prop where
  two : 2 ≤ cv.length
  eight : cv.length ≤ 8
  pair : ∀ k, k < cv.length → (cv.getD k []).length = 2
  flow : ∀ k, k < cv.length → 0 ≤ at2 cv k 0 ∧ at2 cv k 0 ≤ 100000
  push : ∀ k, k < cv.length → 0 ≤ at2 cv k 1 ∧ at2 cv k 1 ≤ 10000
  up : ∀ k, k + 1 < cv.length → at2 cv k 0 < at2 cv (k + 1) 0
  down : ∀ k, k + 1 < cv.length → at2 cv (k + 1) 1 ≤ at2 cv k 1
theorem curved {cv : List (List Int)} (h : curveB cv = true) : Curved cv := by
  unfold curveB at h
  rw [Bool.and_eq_true, Bool.and_eq_true, decide_eq_true_eq, decide_eq_true_eq] at h
  obtain ⟨⟨h1, h2⟩, h3⟩ := h
  have hp := fun k hk => ((allUp_iff _ _).1 h3) k hk
  have key : ∀ k, k < cv.length → (cv.getD k []).length = 2 ∧ (0 ≤ at2 cv k 0 ∧ at2 cv k 0 ≤ 100000) ∧ (0 ≤ at2 cv k 1 ∧ at2 cv k 1 ≤ 10000) ∧ stepB cv k = true := by
    intro k hk
    have h := hp k hk
    unfold ptP at h
    rw [Bool.and_eq_true, Bool.and_eq_true, Bool.and_eq_true, decide_eq_true_eq] at h
    exact ⟨h.1, inB_iff.1 h.2.1, inB_iff.1 h.2.2.1, h.2.2.2⟩
  refine ⟨by omega, by omega, fun k hk => (key k hk).1, fun k hk => (key k hk).2.1, fun k hk => (key k hk).2.2.1, fun k hk => ?_, fun k hk => ?_⟩
  · have h := (key (k + 1) hk).2.2.2
    rw [stepB_succ, Bool.and_eq_true, Bool.not_eq_true', Bool.not_eq_true', decide_eq_false_iff_not, decide_eq_false_iff_not] at h
    omega
  · have h := (key (k + 1) hk).2.2.2
    rw [stepB_succ, Bool.and_eq_true, Bool.not_eq_true', Bool.not_eq_true', decide_eq_false_iff_not, decide_eq_false_iff_not] at h
    omega
theorem scanF_bd {cv : List (List Int)} (h : Curved cv) (q : Int) : ∀ n k, 1 ≤ k → k + n + 1 = cv.length → 0 ≤ scanF cv q n k ∧ scanF cv q n k ≤ 10000 := by
  have one : ∀ k, 1 ≤ k → k < cv.length → 0 ≤ linF (at2 cv (k - 1) 0) (at2 cv (k - 1) 1) (at2 cv k 0) (at2 cv k 1) q ∧ linF (at2 cv (k - 1) 0) (at2 cv (k - 1) 1) (at2 cv k 0) (at2 cv k 1) q ≤ 10000 := by
    intro k h1 hk
    obtain ⟨j, rfl⟩ : ∃ j, k = j + 1 := ⟨k - 1, by omega⟩
    have e : j + 1 - 1 = j := by omega
    rw [e]
    have hd := h.down j hk
    have h2 := linF_bd (x0 := at2 cv j 0) (x1 := at2 cv (j + 1) 0) (x := q) hd
    have h3 := h.push j (by omega)
    have h4 := h.push (j + 1) hk
    omega
  intro n
  induction n with
  | zero => intro k h1 h2; exact one k h1 (by omega)
  | succ n ih =>
    intro k h1 h2
    unfold scanF
    split
    · exact ih (k + 1) (by omega) (by omega)
    · exact one k h1 (by omega)
theorem pressF_bd {cv : List (List Int)} (h : Curved cv) (q : Int) : 0 ≤ pressF cv q ∧ pressF cv q ≤ 10000 := scanF_bd h q _ 1 (by omega) (by have := h.two; omega)
theorem scanF_stop {cv : List (List Int)} {q : Int} {n k : Nat} (h : ¬ at2 cv k 0 < q) : scanF cv q n k = linF (at2 cv (k - 1) 0) (at2 cv (k - 1) 1) (at2 cv k 0) (at2 cv k 1) q := by
  cases n with
  | zero => rfl
  | succ n => unfold scanF; rw [if_neg h]
/-! ### Pushes -/
/-- The place in a list that an entry of a walk tells, and its sign. -/
def ixI (n : Int) : Nat := (if 0 < n then n - 1 else -n - 1).toNat
def sgI (n : Int) : Int := if 0 < n then 1 else -1
def pushK (fs : List Fa) (fl dr : List Int) : Nat → List Int
  | 0 => dr
  | k + 1 => (pushK fs fl dr k).set (fs.getD k nFa).aw.toNat ((pushK fs fl dr k).getD (fs.getD k nFa).aw.toNat 0 + pressF (fs.getD k nFa).cv (fl.getD (fs.getD k nFa).aw.toNat 0))
def pushF (fs : List Fa) (fl dr : List Int) : List Int := pushK fs fl dr fs.length
theorem pushK_length (fs : List Fa) (fl dr : List Int) : ∀ k, (pushK fs fl dr k).length = dr.length
  | 0 => rfl
  | k + 1 => by unfold pushK; rw [List.length_set]; exact pushK_length fs fl dr k
/-- Fans that stand in a mine of nx airways, with valid curves. -/
structure FansOk (nx : Nat) (fs : List Fa) : Prop where
  few : fs.length ≤ 8
  air : ∀ k, k < fs.length → ∃ a : Nat, (fs.getD k nFa).aw = a ∧ a < nx
  cur : ∀ k, k < fs.length → Curved (fs.getD k nFa).cv
theorem pushK_bd {nx : Nat} {fs : List Fa} {fl dr : List Int} (h : FansOk nx fs) (hl : dr.length = nx) (hd : ∀ i, i < nx → -100000 ≤ dr.getD i 0 ∧ dr.getD i 0 ≤ 100000) :
    ∀ k, k ≤ fs.length → ∀ i, i < nx → -100000 ≤ (pushK fs fl dr k).getD i 0 ∧ (pushK fs fl dr k).getD i 0 ≤ 100000 + 10000 * k
  | 0, _, i, hi => by have := hd i hi; unfold pushK; omega
  | k + 1, hk, i, hi => by
    have ih := pushK_bd (fl := fl) h hl hd k (by omega)
    obtain ⟨a, ha, hax⟩ := h.air k (by omega)
    have hb := pressF_bd (h.cur k (by omega)) (fl.getD a 0)
    unfold pushK
    rw [ha, Int.toNat_natCast, getD_set _ _ _ _ (by rw [pushK_length]; omega)]
    have h1 := ih a hax
    have h2 := ih i hi
    split
    · omega
    · omega
/-! ### Errors and steps -/
/-- Entries that tell places in a list of nx numbers. -/
def WalkOk (nx : Nat) (wk : List Int) : Prop := ∀ k, k < wk.length → wk.getD k 0 ≠ 0 ∧ ixI (wk.getD k 0) < nx ∧ (wk.getD k 0).natAbs ≤ nx
def errK (rs ps fl wk : List Int) : Nat → Int
  | 0 => 0
  | k + 1 => errK rs ps fl wk k + sgI (wk.getD k 0) * (dropZ (rs.getD (ixI (wk.getD k 0)) 0) (fl.getD (ixI (wk.getD k 0)) 0) - ps.getD (ixI (wk.getD k 0)) 0)
def errW (rs ps fl wk : List Int) : Int := errK rs ps fl wk wk.length
/-- Lists with a resistance, a push and a flow for each airway. -/
structure SysOk (nx : Nat) (rs ps fl : List Int) : Prop where
  lr : rs.length = nx
  lp : ps.length = nx
  lf : fl.length = nx
  res : ∀ i, i < nx → 1 ≤ rs.getD i 0 ∧ rs.getD i 0 ≤ 1000000
  pus : ∀ i, i < nx → -200000 ≤ ps.getD i 0 ∧ ps.getD i 0 ≤ 200000
  flo : ∀ i, i < nx → -100000 ≤ fl.getD i 0 ∧ fl.getD i 0 ≤ 100000
theorem dropZ_bd {r f : Int} (h1 : 0 ≤ r) (h2 : r ≤ 1000000) (h3 : -100000 ≤ f) (h4 : f ≤ 100000) : -1000000 ≤ dropZ r f ∧ dropZ r f ≤ 1000000 := by
  obtain ⟨_, a, b⟩ := drop_bd h1 h2 h3 h4
  unfold dropZ
  generalize r * f * (f.natAbs : Int) = x at *
  exact ⟨le_divR (by omega) (by omega) (by omega), divR_le (by omega) (by omega) (by omega)⟩
theorem sgI_or (n : Int) : sgI n = 1 ∨ sgI n = -1 := by unfold sgI; split <;> simp
theorem errK_bd {nx : Nat} {rs ps fl wk : List Int} (h : SysOk nx rs ps fl) (hw : WalkOk nx wk) : ∀ k, k ≤ wk.length → -(1200000 * (k : Int)) ≤ errK rs ps fl wk k ∧ errK rs ps fl wk k ≤ 1200000 * (k : Int)
  | 0, _ => by unfold errK; omega
  | k + 1, hk => by
    have ih := errK_bd h hw k (by omega)
    obtain ⟨_, hi, _⟩ := hw k (by omega)
    have h1 := h.res _ hi
    have h2 := h.pus _ hi
    have h3 := h.flo _ hi
    have h4 := dropZ_bd (by omega) h1.2 h3.1 h3.2
    unfold errK
    rcases sgI_or (wk.getD k 0) with e | e <;> rw [e] <;> omega
def riseK (rs fl wk : List Int) : Nat → Int
  | 0 => 0
  | k + 1 => riseK rs fl wk k + 2 * rs.getD (ixI (wk.getD k 0)) 0 * ((fl.getD (ixI (wk.getD k 0)) 0).natAbs : Int)
def allK (rs wk : List Int) : Nat → Int
  | 0 => 0
  | k + 1 => allK rs wk k + rs.getD (ixI (wk.getD k 0)) 0
theorem rise1_bd {r f : Int} (h1 : 1 ≤ r) (h2 : r ≤ 1000000) (h3 : -100000 ≤ f) (h4 : f ≤ 100000) : 0 ≤ 2 * r * (f.natAbs : Int) ∧ 2 * r * (f.natAbs : Int) ≤ 200000000000 := by
  have a := mul_le (a := 2 * r) (b := (f.natAbs : Int)) (A := 2000000) (B := 100000) (by omega) (by omega) (by omega) (by omega)
  have b := mul_ge (a := 2 * r) (b := (f.natAbs : Int)) (by omega) (by omega)
  omega
theorem riseK_bd {nx : Nat} {rs ps fl wk : List Int} (h : SysOk nx rs ps fl) (hw : WalkOk nx wk) : ∀ k, k ≤ wk.length → 0 ≤ riseK rs fl wk k ∧ riseK rs fl wk k ≤ 200000000000 * (k : Int)
  | 0, _ => by unfold riseK; omega
  | k + 1, hk => by
    have ih := riseK_bd h hw k (by omega)
    obtain ⟨_, hi, _⟩ := hw k (by omega)
    have h1 := h.res _ hi
    have h3 := h.flo _ hi
    have h4 := rise1_bd h1.1 h1.2 h3.1 h3.2
    unfold riseK
    omega
theorem allK_bd {nx : Nat} {rs ps fl wk : List Int} (h : SysOk nx rs ps fl) (hw : WalkOk nx wk) : ∀ k, k ≤ wk.length → (k : Int) ≤ allK rs wk k ∧ allK rs wk k ≤ 1000000 * (k : Int)
  | 0, _ => by unfold allK; omega
  | k + 1, hk => by
    have ih := allK_bd h hw k (by omega)
    obtain ⟨_, hi, _⟩ := hw k (by omega)
    have h1 := h.res _ hi
    unfold allK
    omega
/-- The root of a number, rounded down. -/
theorem root_nat : ∀ n : Nat, ∃ r : Nat, r * r ≤ n ∧ n < (r + 1) * (r + 1)
  | 0 => ⟨0, by omega, by omega⟩
  | n + 1 => by
    obtain ⟨r, h1, h2⟩ := root_nat n
    by_cases e : (r + 1) * (r + 1) ≤ n + 1
    · refine ⟨r + 1, e, ?_⟩
      have : (r + 1 + 1) * (r + 1 + 1) = (r + 1) * (r + 1) + 2 * (r + 1) + 1 := by
        rw [Nat.add_mul (r + 1) 1, Nat.mul_add]; omega
      omega
    · exact ⟨r, by omega, by omega⟩
noncomputable def rootN (n : Nat) : Nat := Classical.choose (root_nat n)
theorem rootN_spec (n : Nat) : rootN n * rootN n ≤ n ∧ n < (rootN n + 1) * (rootN n + 1) := Classical.choose_spec (root_nat n)
noncomputable def rootF (n : Int) : Int := (rootN n.toNat : Int)
theorem sq_mono {a b : Nat} (h : a ≤ b) : a * a ≤ b * b := Nat.mul_le_mul h h
theorem rootN_le {n k : Nat} (h : n < (k + 1) * (k + 1)) : rootN n ≤ k := by
  rcases Nat.lt_or_ge k (rootN n) with h' | h'
  · have h1 := (rootN_spec n).1
    have h2 := sq_mono (show k + 1 ≤ rootN n from h')
    omega
  · exact h'
theorem le_rootN {n k : Nat} (h : k * k ≤ n) : k ≤ rootN n := by
  rcases Nat.lt_or_ge (rootN n) k with h' | h'
  · have h1 := (rootN_spec n).2
    have h2 := sq_mono (show rootN n + 1 ≤ k from h')
    omega
  · exact h'
theorem sq_le_iff {n k : Nat} : k * k ≤ n ↔ k ≤ rootN n := ⟨le_rootN, fun h => Nat.le_trans (sq_mono h) (rootN_spec n).1⟩
noncomputable def stepOf (e ri al : Int) : Int := if 0 < ri then divR (-e * 10000000000) ri else if 0 < e then -rootF (e * 10000000000 / al) else if e < 0 then rootF (-e * 10000000000 / al) else 0
noncomputable def stepW (rs ps fl wk : List Int) : Int := mn (mx (stepOf (errW rs ps fl wk) (riseK rs fl wk wk.length) (allK rs wk wk.length)) (-10000)) 10000
theorem stepW_bd (rs ps fl wk : List Int) : -10000 ≤ stepW rs ps fl wk ∧ stepW rs ps fl wk ≤ 10000 := by
  unfold stepW
  generalize stepOf (errW rs ps fl wk) (riseK rs fl wk wk.length) (allK rs wk wk.length) = x
  unfold mn mx
  constructor <;> split <;> split at * <;> omega
/-! ### An amount along a walk -/
def addK (fl wk : List Int) (a : Int) : Nat → List Int
  | 0 => fl
  | k + 1 => (addK fl wk a k).set (ixI (wk.getD k 0)) ((addK fl wk a k).getD (ixI (wk.getD k 0)) 0 + sgI (wk.getD k 0) * a)
def addW (fl wk : List Int) (a : Int) : List Int := addK fl wk a wk.length
theorem addK_length (fl wk : List Int) (a : Int) : ∀ k, (addK fl wk a k).length = fl.length
  | 0 => rfl
  | k + 1 => by unfold addK; rw [List.length_set]; exact addK_length fl wk a k
theorem addK_bd {nx : Nat} {fl wk : List Int} {a : Int} (hl : fl.length = nx) (hf : ∀ i, i < nx → -100000 ≤ fl.getD i 0 ∧ fl.getD i 0 ≤ 100000) (ha : -10000 ≤ a ∧ a ≤ 10000) (hw : WalkOk nx wk) :
    ∀ k, k ≤ wk.length → ∀ i, i < nx → -100000 - 10000 * (k : Int) ≤ (addK fl wk a k).getD i 0 ∧ (addK fl wk a k).getD i 0 ≤ 100000 + 10000 * (k : Int)
  | 0, _, i, hi => by have := hf i hi; unfold addK; omega
  | k + 1, hk, i, hi => by
    have ih := addK_bd hl hf ha hw k (by omega)
    obtain ⟨_, hx, _⟩ := hw k (by omega)
    unfold addK
    rw [getD_set _ _ _ _ (by rw [addK_length]; omega)]
    have h1 := ih _ hx
    have h2 := ih i hi
    split
    · rcases sgI_or (wk.getD k 0) with e | e <;> rw [e] <;> omega
    · omega
/-! ### Rounds -/
def errsL (rs ps fl : List Int) (ms : List (List Int)) : List Int := ms.map (errW rs ps fl)
def worstK (es : List Int) : Nat → Int
  | 0 => 0
  | k + 1 => mx (worstK es k) ((es.getD k 0).natAbs : Int)
def worstL (es : List Int) : Int := worstK es es.length
def flowsB (fl : List Int) : Bool := allIn fl (-100000) 100000
/-- One pass over the meshes: flows, or none if one of them is too great. -/
noncomputable def passK (rs dr : List Int) (fs : List Fa) : List (List Int) → List Int → Option (List Int)
  | [], fl => some fl
  | m :: ms, fl => if flowsB (addW fl m (stepW rs (pushF fs fl dr) fl m)) then passK rs dr fs ms (addW fl m (stepW rs (pushF fs fl dr) fl m)) else none
noncomputable def solveR (rs dr : List Int) (fs : List Fa) (ms : List (List Int)) (tol : Int) : Nat → List Int → List Int × Int × Int
  | 0, fl => if worstL (errsL rs (pushF fs fl dr) fl ms) ≤ tol then (fl, worstL (errsL rs (pushF fs fl dr) fl ms), 0) else ([], worstL (errsL rs (pushF fs fl dr) fl ms), 5)
  | n + 1, fl => if worstL (errsL rs (pushF fs fl dr) fl ms) ≤ tol then (fl, worstL (errsL rs (pushF fs fl dr) fl ms), 0) else
    match passK rs dr fs ms fl with
      | none => ([], 0, 6)
      | some fl' => solveR rs dr fs ms tol n fl'
end Go.Proofs.YtejkoicgbgoiaaaGreat

/- Flows: the error of a walk, by the program and by the reference. Conditions: the facts on memory and on lengths that each theorem names. -/
namespace Go.Proofs.YtejkoicgbgoiaaaGreat
open Go.RowKit
open Pl
theorem ix_pos {n : Int} (h0 : n ≠ 0) : (ixI n : Int) = (if 0 < n then n - 1 else -n - 1) := by
  unfold ixI; split <;> omega
theorem ix_abs {n : Int} (h0 : n ≠ 0) : (n.natAbs : Int) - 1 = (ixI n : Int) := by
  rw [ix_pos h0]; split <;> omega
theorem sg_mul {n d B : Int} (h1 : -B ≤ d) (h2 : d ≤ B) : -B ≤ sgI n * d ∧ sgI n * d ≤ B := by
  rcases sgI_or n with e | e <;> rw [e] <;> omega
theorem airwayOf_any (n : Int) (w : World) (h0 : n ≠ 0) (h1 : n.natAbs ≤ 1000) :
    Calls Tryz.prog 131 #[.int .i64 n] w fun e w' => e = .returned (.tuple #[.int .i64 (ixI n : Int), .int .i64 (sgI n)]) ∧ w = w' := by
  rw [ix_pos h0]
  by_cases h : 0 < n
  · rw [if_pos h, show sgI n = 1 by unfold sgI; rw [if_pos h]]
    go_enter Tryz.func131, Tryz.ntmps131
    go_wp2
    go_ret2
    exact ⟨rfl, rfl⟩
  · rw [if_neg h, show sgI n = -1 by unfold sgI; rw [if_neg h]]
    go_enter Tryz.func131, Tryz.ntmps131
    go_wp2
    go_ret2
    exact ⟨rfl, rfl⟩
theorem absS_any (n : Int) (w : World) (h1 : -9223372036854775807 ≤ n) (h2 : n ≤ 9223372036854775807) : Calls Tryz.prog 146 #[.int .i64 n] w fun e w' => e = .returned (.int .i64 (n.natAbs : Int)) ∧ w = w' := by
  have e : (n.natAbs : Int) = mx n (-n) := by unfold mx; split <;> omega
  rw [e]
  generalize hm : mx n (-n) = m
  go_enter Tryz.func146, Tryz.ntmps146
  go_wp2_with (go_at_call 141; refine (l00Max_any _ _ _).mono ?_; rintro e w' ⟨rfl, rfl⟩)
  go_ret
  exact ⟨rfl, rfl⟩
set_option maxRecDepth 100000 in
theorem walkError_any (nx : Nat) (AW : Option Addr) (cw : Nat) (wk : List Int) (AR : Option Addr) (cr : Nat) (rs : List Int) (AP : Option Addr) (cp : Nat) (ps : List Int) (AL : Option Addr) (cl : Nat) (fl : List Int) (B : Nat) (w : World) (hW : Ints B w AW wk) (hR : Ints B w AR rs) (hP : Ints B w AP ps) (hL : Ints B w AL fl) (hs : SysOk nx rs ps fl) (hw : WalkOk nx wk) (hn : nx ≤ 24) (hk : wk.length ≤ 100) :
    Calls Tryz.prog 129 #[.slice AW wk.length cw, .slice AR rs.length cr, .slice AP ps.length cp, .slice AL fl.length cl] w fun e w' => e = .returned (.int .i64 (errW rs ps fl wk)) ∧ ∃ n, w.drewN n = w' := by
  have HS := Lib.hid hs
  have HW := Lib.hid hw
  have JW := Lib.hid hW
  have JR := Lib.hid hR
  have JP := Lib.hid hP
  have JL := Lib.hid hL
  have HLR := Lib.hid hs.lr
  have HLP := Lib.hid hs.lp
  have HLL := Lib.hid hs.lf
  unfold errW
  clear hs hw hW hR hP hL
  go_enter Tryz.func129, Tryz.ntmps129
  go_wp2
  go_loopw [9, 16] (fun u ii wr => ∃ k : Nat, k ≤ wk.length ∧ ii = .int .i64 k ∧ u = .int .i64 (errK rs ps fl wk k) ∧ ∃ n, w.drewN n = wr) (fun _ ii _ => wk.length - (intOf ii).toNat)
  case atStart => exact ⟨0, Nat.zero_le _, rfl, rfl, 0, rfl⟩
  case round =>
    obtain ⟨k, hkl, rfl, rfl, nd, rfl⟩ := hrel
    by_cases hlt : k < wk.length
    · obtain ⟨hn0, hix, hna⟩ := HW.out k hlt
      obtain ⟨ad, rfl, -, hc⟩ := JW.out.atD hlt
      have hE := errK_bd HS.out HW.out k (by omega)
      have h1 := HS.out.res _ hix
      have h2 := HS.out.pus _ hix
      have h3 := HS.out.flo _ hix
      have h4 := dropZ_bd (by omega) h1.2 h3.1 h3.2
      have hst : errK rs ps fl wk (k + 1) = errK rs ps fl wk k + sgI (wk.getD k 0) * (dropZ (rs.getD (ixI (wk.getD k 0)) 0) (fl.getD (ixI (wk.getD k 0)) 0) - ps.getD (ixI (wk.getD k 0)) 0) := rfl
      have hm := sg_mul (n := wk.getD k 0) (d := dropZ (rs.getD (ixI (wk.getD k 0)) 0) (fl.getD (ixI (wk.getD k 0)) 0) - ps.getD (ixI (wk.getD k 0)) 0) (B := 1200000) (by omega) (by omega)
      obtain ⟨adr, rfl, -, hcr⟩ := JR.out.atD (k := ixI (wk.getD k 0)) (by have := HLR.out; omega)
      obtain ⟨adp, rfl, -, hcp⟩ := JP.out.atD (k := ixI (wk.getD k 0)) (by have := HLP.out; omega)
      obtain ⟨adl, rfl, -, hcl⟩ := JL.out.atD (k := ixI (wk.getD k 0)) (by have := HLL.out; omega)
      have z1 : (ixI (wk.getD k 0) : Int) < rs.length := by have := HLR.out; omega
      have z2 : (ixI (wk.getD k 0) : Int) < ps.length := by have := HLP.out; omega
      have z3 : (ixI (wk.getD k 0) : Int) < fl.length := by have := HLL.out; omega
      have HA := Lib.hid (fun W => airwayOf_any (wk.getD k 0) W hn0 (by omega))
      have HD := Lib.hid (fun W => dropOf_any (rs.getD (ixI (wk.getD k 0)) 0) (fl.getD (ixI (wk.getD k 0)) 0) W (by omega) h1.2 h3.1 h3.2)
      have HST := Lib.hid hst
      clear hst
      generalize dropZ (rs.getD (ixI (wk.getD k 0)) 0) (fl.getD (ixI (wk.getD k 0)) 0) = d at *
      generalize rs.getD (ixI (wk.getD k 0)) 0 = r at *
      generalize ps.getD (ixI (wk.getD k 0)) 0 = p at *
      generalize fl.getD (ixI (wk.getD k 0)) 0 = q at *
      generalize ixI (wk.getD k 0) = i at *
      generalize sgI (wk.getD k 0) = sg at *
      generalize wk.getD k 0 = n at *
      generalize errK rs ps fl wk k = e at *
      have i0 : (0 : Int) ≤ (k : Int) := by omega
      have i1 : (k : Int) < wk.length := by omega
      have z0 : (0 : Int) ≤ (i : Int) := by omega
      go_wp2_with (go_at_call 131; refine (HA.out _).mono ?_; rintro e w' ⟨rfl, rfl⟩)
      go_big_quiet ((go_at_call 163; first | (with_reducible exact quiet_d (HD.out _)) | (with_reducible exact quiet_d2 (HD.out _))))
      go_wp2
      go_roundw
      case rel => exact ⟨k + 1, by omega, by go_num, by rw [HST.out], _, rfl⟩
      case measure => simp [intOf]; omega
    · obtain rfl : k = wk.length := by omega
      go_wp2
      go_ret
      exact ⟨rfl, _, rfl⟩
set_option maxRecDepth 100000 in
theorem l07Error_any (nx : Nat) (AW : Option Addr) (cw : Nat) (wk : List Int) (AR : Option Addr) (cr : Nat) (rs : List Int) (AP : Option Addr) (cp : Nat) (ps : List Int) (AL : Option Addr) (cl : Nat) (fl : List Int) (B : Nat) (w : World) (hW : Ints B w AW wk) (hR : Ints B w AR rs) (hP : Ints B w AP ps) (hL : Ints B w AL fl) (hs : SysOk nx rs ps fl) (hw : WalkOk nx wk) (hn : nx ≤ 24) (hk : wk.length ≤ 100) :
    Calls Tryz.prog 147 #[.slice AR rs.length cr, .slice AP ps.length cp, .slice AL fl.length cl, .slice AW wk.length cw] w fun e w' => e = .returned (.int .i64 (errW rs ps fl wk)) ∧ ∃ n, w.drewN n = w' := by
  have HS := Lib.hid hs
  have HW := Lib.hid hw
  have JW := Lib.hid hW
  have JR := Lib.hid hR
  have JP := Lib.hid hP
  have JL := Lib.hid hL
  have HLR := Lib.hid hs.lr
  have HLP := Lib.hid hs.lp
  have HLL := Lib.hid hs.lf
  unfold errW
  clear hs hw hW hR hP hL
  go_enter Tryz.func147, Tryz.ntmps147
  go_wp2
  go_loopw [9, 10] (fun u ii wr => ∃ k : Nat, k ≤ wk.length ∧ ii = .int .i64 k ∧ u = .int .i64 (errK rs ps fl wk k) ∧ ∃ n, w.drewN n = wr) (fun _ ii _ => wk.length - (intOf ii).toNat)
  case atStart => exact ⟨0, Nat.zero_le _, rfl, rfl, 0, rfl⟩
  case round =>
    obtain ⟨k, hkl, rfl, rfl, nd, rfl⟩ := hrel
    by_cases hlt : k < wk.length
    · obtain ⟨hn0, hix, hna⟩ := HW.out k hlt
      obtain ⟨ad, rfl, -, hc⟩ := JW.out.atD hlt
      have hE := errK_bd HS.out HW.out k (by omega)
      have h1 := HS.out.res _ hix
      have h2 := HS.out.pus _ hix
      have h3 := HS.out.flo _ hix
      have h4 := dropZ_bd (by omega) h1.2 h3.1 h3.2
      have hst : errK rs ps fl wk (k + 1) = errK rs ps fl wk k + (if 0 < wk.getD k 0 then 1 else -1) * (dropZ (rs.getD (ixI (wk.getD k 0)) 0) (fl.getD (ixI (wk.getD k 0)) 0) - ps.getD (ixI (wk.getD k 0)) 0) := rfl
      obtain ⟨adr, rfl, -, hcr⟩ := JR.out.atD (k := ixI (wk.getD k 0)) (by have := HLR.out; omega)
      obtain ⟨adp, rfl, -, hcp⟩ := JP.out.atD (k := ixI (wk.getD k 0)) (by have := HLP.out; omega)
      obtain ⟨adl, rfl, -, hcl⟩ := JL.out.atD (k := ixI (wk.getD k 0)) (by have := HLL.out; omega)
      have z1 : (ixI (wk.getD k 0) : Int) < rs.length := by have := HLR.out; omega
      have z2 : (ixI (wk.getD k 0) : Int) < ps.length := by have := HLP.out; omega
      have z3 : (ixI (wk.getD k 0) : Int) < fl.length := by have := HLL.out; omega
      have HA := Lib.hid (fun W => absS_any (wk.getD k 0) W (by omega) (by omega))
      have hia := ix_abs hn0
      have HD := Lib.hid (fun W => l03Drop_any (rs.getD (ixI (wk.getD k 0)) 0) (fl.getD (ixI (wk.getD k 0)) 0) W (by omega) h1.2 h3.1 h3.2)
      have HST := Lib.hid hst
      clear hst
      generalize dropZ (rs.getD (ixI (wk.getD k 0)) 0) (fl.getD (ixI (wk.getD k 0)) 0) = d at *
      generalize rs.getD (ixI (wk.getD k 0)) 0 = r at *
      generalize ps.getD (ixI (wk.getD k 0)) 0 = p at *
      generalize fl.getD (ixI (wk.getD k 0)) 0 = q at *
      generalize ixI (wk.getD k 0) = i at *
      generalize wk.getD k 0 = n at *
      generalize errK rs ps fl wk k = e at *
      have i0 : (0 : Int) ≤ (k : Int) := by omega
      have i1 : (k : Int) < wk.length := by omega
      have z0 : (0 : Int) ≤ (i : Int) := by omega
      generalize (n.natAbs : Int) = na at *
      by_cases hp : 0 < n
      · have HS2 := Lib.hid (show errK rs ps fl wk (k + 1) = e + (d - p) by rw [HST.out, if_pos hp]; omega)
        go_wp2_with (go_at_call 146; refine (HA.out _).mono ?_; rintro e w' ⟨rfl, rfl⟩)
        go_big_quiet ((go_at_call 170; first | (with_reducible exact quiet_s (HD.out _)) | (with_reducible exact quiet_s2 (HD.out _))))
        go_wp2
        go_roundw
        case rel => exact ⟨k + 1, by omega, by go_num, by rw [HS2.out], _, rfl⟩
        case measure => simp [intOf]; omega
      · have HS2 := Lib.hid (show errK rs ps fl wk (k + 1) = e - (d - p) by rw [HST.out, if_neg hp]; omega)
        go_wp2_with (go_at_call 146; refine (HA.out _).mono ?_; rintro e w' ⟨rfl, rfl⟩)
        go_big_quiet ((go_at_call 170; first | (with_reducible exact quiet_s (HD.out _)) | (with_reducible exact quiet_s2 (HD.out _))))
        go_wp2
        go_roundw
        case rel => exact ⟨k + 1, by omega, by go_num, by rw [HS2.out], _, rfl⟩
        case measure => simp [intOf]; omega
    · obtain rfl : k = wk.length := by omega
      go_wp2
      go_ret
      exact ⟨rfl, _, rfl⟩
end Go.Proofs.YtejkoicgbgoiaaaGreat

/- Flows: the errors of all meshes, by the program and by the reference; the worst of numbers. Conditions: the facts on memory and on lengths that each theorem names. -/
namespace Go.Proofs.YtejkoicgbgoiaaaGreat
open Go.RowKit
open Pl
/-- Meshes that tell places in a list of nx numbers. -/
structure MeshOk (nx : Nat) (ms : List (List Int)) : Prop where
  few : ms.length ≤ 24
  each : ∀ k, k < ms.length → WalkOk nx (ms.getD k []) ∧ 0 < (ms.getD k []).length ∧ (ms.getD k []).length ≤ 100
def errsK (rs ps fl : List Int) (ms : List (List Int)) : Nat → List Int
  | 0 => []
  | k + 1 => errsK rs ps fl ms k ++ [errW rs ps fl (ms.getD k [])]
theorem errsK_length (rs ps fl : List Int) (ms : List (List Int)) : ∀ k, (errsK rs ps fl ms k).length = k
  | 0 => rfl
  | k + 1 => by unfold errsK; rw [List.length_append, errsK_length]; rfl
theorem errsK_map (rs ps fl : List Int) (ms : List (List Int)) : ∀ k, k ≤ ms.length → errsK rs ps fl ms k = (ms.take k).map (errW rs ps fl)
  | 0, _ => rfl
  | k + 1, h => by
    unfold errsK
    rw [errsK_map rs ps fl ms k (by omega), List.take_add_one, List.getElem?_eq_getElem (by omega), List.map_append]
    simp [List.getD, show k < ms.length by omega]
theorem errsK_all (rs ps fl : List Int) (ms : List (List Int)) : errsK rs ps fl ms ms.length = errsL rs ps fl ms := by
  rw [errsK_map _ _ _ _ _ (Nat.le_refl _), List.take_length]; rfl
theorem errsL_length (rs ps fl : List Int) (ms : List (List Int)) : (errsL rs ps fl ms).length = ms.length := List.length_map _
theorem errW_bd {nx : Nat} {rs ps fl wk : List Int} (h : SysOk nx rs ps fl) (hw : WalkOk nx wk) (hk : wk.length ≤ 100) : -120000000 ≤ errW rs ps fl wk ∧ errW rs ps fl wk ≤ 120000000 := by
  have := errK_bd h hw wk.length (Nat.le_refl _)
  unfold errW
  omega
theorem errsL_bd {nx : Nat} {rs ps fl : List Int} {ms : List (List Int)} (h : SysOk nx rs ps fl) (hm : MeshOk nx ms) {k : Nat} (hk : k < ms.length) : -120000000 ≤ (errsL rs ps fl ms).getD k 0 ∧ (errsL rs ps fl ms).getD k 0 ≤ 120000000 := by
  have e : (errsL rs ps fl ms).getD k 0 = errW rs ps fl (ms.getD k []) := by
    unfold errsL
    rw [getD_map _ ([] : List Int) _ hk]
  rw [e]
  obtain ⟨h1, _, h3⟩ := hm.each k hk
  exact errW_bd h h1 h3
theorem worstK_bd {es : List Int} {b : Int} (h : ∀ k, k < es.length → -b ≤ es.getD k 0 ∧ es.getD k 0 ≤ b) (hb : 0 ≤ b) : ∀ k, k ≤ es.length → 0 ≤ worstK es k ∧ worstK es k ≤ b
  | 0, _ => by unfold worstK; omega
  | k + 1, hk => by
    have ih := worstK_bd h hb k (by omega)
    have h1 := h k (by omega)
    unfold worstK
    rcases mx_or (worstK es k) ((es.getD k 0).natAbs : Int) with e | e <;> rw [e] <;> omega
set_option maxRecDepth 100000 in
set_option maxHeartbeats 1600000 in
theorem meshErrors_any (nx : Nat) (AM : Option Addr) (cm : Nat) (ms : List (List Int)) (AR : Option Addr) (cr : Nat) (rs : List Int) (AP : Option Addr) (cp : Nat) (ps : List Int) (AL : Option Addr) (cl : Nat) (fl : List Int) (w : World) (hM : Nest w.heap.size w AM ms) (hR : Ints w.heap.size w AR rs) (hP : Ints w.heap.size w AP ps) (hL : Ints w.heap.size w AL fl) (hs : SysOk nx rs ps fl) (hm : MeshOk nx ms) (hn : nx ≤ 24) :
    Calls Tryz.prog 94 #[.slice AM ms.length cm, .slice AR rs.length cr, .slice AP ps.length cp, .slice AL fl.length cl] w fun e w' => ∃ v, e = .returned v ∧ Own w.heap.size w' v (errsL rs ps fl ms) ∧ Below w.heap.size w w' := by
  obtain ⟨i0, hi, hz0, hz1, hz2⟩ := info_parts infoI
  have HF := Lib.hid (And.intro hi (And.intro hz0 (And.intro hz1 hz2)))
  have JM := Lib.hid hM
  have JR := Lib.hid hR
  have JP := Lib.hid hP
  have JL := Lib.hid hL
  have HS := Lib.hid hs
  have HM := Lib.hid hm
  have hf := hm.few
  rw [← errsK_all]
  clear hM hR hP hL hs hm hi hz0 hz1 hz2
  go_enter Tryz.func94, Tryz.ntmps94
  go_wp2
  go_loopw [9, 14] (fun u ii wr => ∃ k : Nat, k ≤ ms.length ∧ ii = .int .i64 k ∧ Below w.heap.size w wr ∧ Own w.heap.size wr u (errsK rs ps fl ms k)) (fun _ ii _ => ms.length - (intOf ii).toNat)
  case atStart => exact ⟨0, Nat.zero_le _, rfl, Below.refl _ _, Own.nil_ _ _⟩
  case round =>
    obtain ⟨k, hk, rfl, hb, ho⟩ := hrel
    have hsz := hb.size
    by_cases hlt : k < ms.length
    · obtain ⟨h1, h2, h3⟩ := HM.out.each k hlt
      obtain ⟨b, o, rfl, -, A', c', hc, hiw⟩ := (JM.out.below hb).atD hlt
      have HC := Lib.hid (walkError_any nx A' c' (ms.getD k []) AR cr rs AP cp ps AL cl fl w.heap.size wr hiw (JR.out.below hb) (JP.out.below hb) (JL.out.below hb) HS.out h1 hn h3)
      have hbd := errW_bd HS.out h1 h3
      have HST : Hid (errsK rs ps fl ms (k + 1) = errsK rs ps fl ms k ++ [errW rs ps fl (ms.getD k [])]) := Lib.hid rfl
      have hll : (errsK rs ps fl ms k).length ≤ 24 := by rw [errsK_length]; omega
      have j0 : (0 : Int) ≤ (k : Int) := by omega
      have j1 : (k : Int) < ms.length := by omega
      have HO := Lib.hid ho
      clear ho hiw h1 h2 h3
      generalize errsK rs ps fl ms k = es at *
      generalize errW rs ps fl (ms.getD k []) = x at *
      generalize ms.getD k [] = wk at *
      go_wp2_with fail
      refine HC.out.mono ?_
      rintro e w2 ⟨rfl, nd, rfl⟩
      have hb3 := below_drewN hb nd
      have HO3 := Lib.hid (HO.out.later (below_drewN (Below.refl _ _) nd))
      have hsz3 := hb3.size
      clear HC hc
      generalize wr.drewN nd = wd at *
      go_wp2_with (at_builtin; refine wpList_append_own_at _ rfl _ _ 25 rfl w.heap.size 2 i0 (.int .i64 0) 1 8 Tryz.underlying25 HF.out.1 HF.out.2.1 HF.out.2.2.1 HF.out.2.2.2 rfl (by decide) _ _ _ rfl (HO3.out.later ((Below.refl _ _).alloc (Nat.le_refl _) _)) ⟨wd.heap.size, 0, none⟩ 1 1 [.int .i64 x] rfl rfl (cell_one_new _ _ _) (by intro u hu; simp at hu; subst hu; rfl) (le_max (by omega)) (by omega) (by simp; omega) ?_; intro av aw ah ag an aa)
      have hbe2 : Below w.heap.size w aw := Below.appended hb3 HO3.out hsz3 ag
      have ho' := Own.appended ah
      clear ah ag an aa
      have HO4 := Lib.hid ho'
      clear ho'
      go_wp2
      go_roundw
      case rel => exact ⟨k + 1, by omega, by go_num, hbe2, by rw [HST.out]; exact HO4.out⟩
      case measure => simp [intOf]; omega
    · obtain rfl : k = ms.length := by omega
      have HO := Lib.hid ho
      clear ho
      go_wp2
      go_ret
      exact ⟨_, rfl, HO.out, hb⟩
set_option maxRecDepth 100000 in
set_option maxHeartbeats 1600000 in
theorem l07Errors_any (nx : Nat) (AM : Option Addr) (cm : Nat) (ms : List (List Int)) (AR : Option Addr) (cr : Nat) (rs : List Int) (AP : Option Addr) (cp : Nat) (ps : List Int) (AL : Option Addr) (cl : Nat) (fl : List Int) (w : World) (hM : Nest w.heap.size w AM ms) (hR : Ints w.heap.size w AR rs) (hP : Ints w.heap.size w AP ps) (hL : Ints w.heap.size w AL fl) (hs : SysOk nx rs ps fl) (hm : MeshOk nx ms) (hn : nx ≤ 24) :
    Calls Tryz.prog 111 #[.slice AM ms.length cm, .slice AR rs.length cr, .slice AP ps.length cp, .slice AL fl.length cl] w fun e w' => ∃ v, e = .returned v ∧ Own w.heap.size w' v (errsL rs ps fl ms) ∧ Below w.heap.size w w' := by
  obtain ⟨i0, hi, hz0, hz1, hz2⟩ := info_parts infoI
  have HF := Lib.hid (And.intro hi (And.intro hz0 (And.intro hz1 hz2)))
  have JM := Lib.hid hM
  have JR := Lib.hid hR
  have JP := Lib.hid hP
  have JL := Lib.hid hL
  have HS := Lib.hid hs
  have HM := Lib.hid hm
  have hf := hm.few
  rw [← errsK_all]
  clear hM hR hP hL hs hm hi hz0 hz1 hz2
  go_enter Tryz.func111, Tryz.ntmps111
  go_wp2
  go_loopw [9, 10] (fun u ii wr => ∃ k : Nat, k ≤ ms.length ∧ ii = .int .i64 k ∧ Below w.heap.size w wr ∧ Own w.heap.size wr u (errsK rs ps fl ms k)) (fun _ ii _ => ms.length - (intOf ii).toNat)
  case atStart => exact ⟨0, Nat.zero_le _, rfl, (Below.refl _ _).alloc (Nat.le_refl _) _, Own.empty (Nat.le_refl _)⟩
  case round =>
    obtain ⟨k, hk, rfl, hb, ho⟩ := hrel
    have hsz := hb.size
    by_cases hlt : k < ms.length
    · obtain ⟨h1, h2, h3⟩ := HM.out.each k hlt
      obtain ⟨b, o, rfl, -, A', c', hc, hiw⟩ := (JM.out.below hb).atD hlt
      have HC := Lib.hid (l07Error_any nx A' c' (ms.getD k []) AR cr rs AP cp ps AL cl fl w.heap.size wr hiw (JR.out.below hb) (JP.out.below hb) (JL.out.below hb) HS.out h1 hn h3)
      have hbd := errW_bd HS.out h1 h3
      have HST : Hid (errsK rs ps fl ms (k + 1) = errsK rs ps fl ms k ++ [errW rs ps fl (ms.getD k [])]) := Lib.hid rfl
      have hll : (errsK rs ps fl ms k).length ≤ 24 := by rw [errsK_length]; omega
      have j0 : (0 : Int) ≤ (k : Int) := by omega
      have j1 : (k : Int) < ms.length := by omega
      have HO := Lib.hid ho
      clear ho hiw h1 h2 h3
      generalize errsK rs ps fl ms k = es at *
      generalize errW rs ps fl (ms.getD k []) = x at *
      generalize ms.getD k [] = wk at *
      go_wp2_with fail
      refine HC.out.mono ?_
      rintro e w2 ⟨rfl, nd, rfl⟩
      have hb3 := below_drewN hb nd
      have HO3 := Lib.hid (HO.out.later (below_drewN (Below.refl _ _) nd))
      have hsz3 := hb3.size
      clear HC hc
      generalize wr.drewN nd = wd at *
      go_wp2_with (at_builtin; refine wpList_append_own_at _ rfl _ _ 25 rfl w.heap.size 2 i0 (.int .i64 0) 1 8 Tryz.underlying25 HF.out.1 HF.out.2.1 HF.out.2.2.1 HF.out.2.2.2 rfl (by decide) _ _ _ rfl (HO3.out.later ((Below.refl _ _).alloc (Nat.le_refl _) _)) ⟨wd.heap.size, 0, none⟩ 1 1 [.int .i64 x] rfl rfl (cell_one_new _ _ _) (by intro u hu; simp at hu; subst hu; rfl) (le_max (by omega)) (by omega) (by simp; omega) ?_; intro av aw ah ag an aa)
      have hbe2 : Below w.heap.size w aw := Below.appended hb3 HO3.out hsz3 ag
      have ho' := Own.appended ah
      clear ah ag an aa
      have HO4 := Lib.hid ho'
      clear ho'
      go_wp2
      go_roundw
      case rel => exact ⟨k + 1, by omega, by go_num, hbe2, by rw [HST.out]; exact HO4.out⟩
      case measure => simp [intOf]; omega
    · obtain rfl : k = ms.length := by omega
      have HO := Lib.hid ho
      clear ho
      go_wp2
      go_ret
      exact ⟨_, rfl, HO.out, hb⟩
set_option maxRecDepth 100000 in
theorem l07Worst_any (A : Option Addr) (c : Nat) (es : List Int) (B : Nat) (w : World) (hn : es.length ≤ 1000) (hI : Ints B w A es) (hb : ∀ k, k < es.length → -120000000 ≤ es.getD k 0 ∧ es.getD k 0 ≤ 120000000) :
    Calls Tryz.prog 110 #[.slice A es.length c] w fun e w' => e = .returned (.int .i64 (worstL es)) ∧ w = w' := by
  have J := Lib.hid hI
  have HB := Lib.hid hb
  unfold worstL
  clear hI hb
  go_enter Tryz.func110, Tryz.ntmps110
  go_wp2
  go_loop [3, 4] (fun u ii => ∃ k : Nat, k ≤ es.length ∧ ii = .int .i64 k ∧ u = .int .i64 (worstK es k)) (fun _ ii => es.length - (intOf ii).toNat)
  case atStart => exact ⟨0, Nat.zero_le _, rfl, rfl⟩
  case round =>
    obtain ⟨k, hk, rfl, rfl⟩ := hrel
    by_cases hlt : k < es.length
    · obtain ⟨ad, rfl, -, hc⟩ := J.out.atD hlt
      have hx := HB.out k hlt
      have HST : Hid (worstK es (k + 1) = mx (worstK es k) ((es.getD k 0).natAbs : Int)) := Lib.hid rfl
      have HA := Lib.hid (fun W => absS_any (es.getD k 0) W (by omega) (by omega))
      generalize worstK es k = m at *
      generalize ((es.getD k 0).natAbs : Int) = na at *
      generalize es.getD k 0 = x at *
      have j0 : (0 : Int) ≤ (k : Int) := by omega
      have i1 : (k : Int) < es.length := by omega
      go_wp2_with (first | (go_at_call 146; refine (HA.out _).mono ?_; rintro e w' ⟨rfl, rfl⟩) | (go_at_call 141; refine (l00Max_any _ _ _).mono ?_; rintro e w' ⟨rfl, rfl⟩))
      go_round
      case rel => exact ⟨k + 1, by omega, by go_num, by rw [HST.out]⟩
      case measure => simp [intOf]; omega
    · obtain rfl : k = es.length := by omega
      go_wp2
      go_ret
      exact ⟨rfl, rfl⟩
end Go.Proofs.YtejkoicgbgoiaaaGreat

/- Networks: the meshes, by the program and by the reference. Conditions: the facts on memory and on lengths that each theorem names. -/
namespace Go.Proofs.YtejkoicgbgoiaaaGreat
open Go.RowKit Go.Maps
open Pl
/-- The mesh that an airway outside the forest closes. -/
def meshOf (N : Nat) (xs : List Aw) (k : Nat) : List Int := ((k : Int) + 1) :: (pathF N (edsA xs (forest N xs)) (xs.getD k aNone).t (xs.getD k aNone).f).1
def meshL (N : Nat) (xs : List Aw) : Nat → List (List Int)
  | 0 => []
  | k + 1 => if (forest N xs).contains (k : Int) then meshL N xs k else meshL N xs k ++ [meshOf N xs k]
def meshesF (N : Nat) (xs : List Aw) : List (List Int) := meshL N xs xs.length
theorem meshL_length (N : Nat) (xs : List Aw) : ∀ k, (meshL N xs k).length ≤ k
  | 0 => Nat.le_refl _
  | k + 1 => by have := meshL_length N xs k; unfold meshL; split; omega; simp; omega
theorem pathF_len {N : Nat} {G : List Ed} {a to : Int} : (pathF N G a to).1.length ≤ N := by
  unfold pathF
  split
  · have h := pathF_length_le G (dst G to N) (dst G to N a).toNat a
    have := dst_or G to N a
    dsimp only
    omega
  · simp
theorem walkF_in {G : List Ed} {d : Int → Int} : ∀ (s : Nat) (a x : Int), x ∈ walkF G d s a → ∃ i, i < G.length ∧ (x = (G.getD i eNone).k + 1 ∨ x = -(G.getD i eNone).k - 1)
  | 0, a, x, h => by simp [walkF] at h
  | s + 1, a, x, h => by
    unfold walkF at h
    split at h
    · rename_i e he
      rcases List.mem_cons.1 h with rfl | h
      · obtain ⟨i, hi, hie⟩ := getD_of_mem eNone (List.mem_of_find?_eq_some he)
        refine ⟨i, hi, ?_⟩
        rw [hie]
        unfold sgn
        split
        · exact .inl rfl
        · exact .inr rfl
      · exact walkF_in s _ x h
    · simp at h
theorem walk_entry {nx p : Nat} {x : Int} (hp : p < nx) (h : x = (p : Int) + 1 ∨ x = -(p : Int) - 1) : x ≠ 0 ∧ ixI x < nx ∧ x.natAbs ≤ nx := by
  unfold ixI
  rcases h with rfl | rfl
  · rw [if_pos (by omega)]; omega
  · rw [if_neg (by omega)]; omega
theorem meshOf_ok {N : Nat} {xs : List Aw} {k : Nat} (hN : N ≤ 16) (hk : k < xs.length) : WalkOk xs.length (meshOf N xs k) ∧ 0 < (meshOf N xs k).length ∧ (meshOf N xs k).length ≤ 17 := by
  have hl := pathF_len (N := N) (G := edsA xs (forest N xs)) (a := (xs.getD k aNone).t) (to := (xs.getD k aNone).f)
  refine ⟨fun j hj => ?_, by unfold meshOf; rw [List.length_cons]; omega, by unfold meshOf; rw [List.length_cons]; omega⟩
  have hm : (meshOf N xs k).getD j 0 ∈ meshOf N xs k := mem_getD hj
  generalize (meshOf N xs k).getD j 0 = x at hm
  unfold meshOf at hm
  rcases List.mem_cons.1 hm with rfl | hm
  · exact walk_entry hk (.inl rfl)
  · unfold pathF at hm
    split at hm
    · obtain ⟨i, hi, he⟩ := walkF_in _ _ _ hm
      rw [edsA_length] at hi
      rw [edsA_get hi] at he
      obtain ⟨p, hp, hpl⟩ := treeL_ok N xs xs.length i hi
      have hp : (forest N xs).getD i 0 = p := hp
      rw [hp] at he
      exact walk_entry hpl he
    · simp at hm
theorem meshL_ok {N : Nat} {xs : List Aw} (hN : N ≤ 16) : ∀ k, k ≤ xs.length → ∀ j, j < (meshL N xs k).length → WalkOk xs.length ((meshL N xs k).getD j []) ∧ 0 < ((meshL N xs k).getD j []).length ∧ ((meshL N xs k).getD j []).length ≤ 17
  | 0, _, j, h => by simp [meshL] at h
  | k + 1, hk, j, h => by
    have ih := meshL_ok (N := N) (xs := xs) hN k (by omega)
    unfold meshL at h ⊢
    split at h
    · rename_i hc
      rw [if_pos hc]
      exact ih j h
    · rename_i hc
      rw [if_neg hc]
      by_cases e : j < (meshL N xs k).length
      · rw [getD_app e]; exact ih j e
      · have e : j = (meshL N xs k).length := by simp at h; omega
        subst e
        rw [getD_last]
        exact meshOf_ok hN (by omega)
theorem meshes_ok {N : Nat} {xs : List Aw} (hN : N ≤ 16) (hx : xs.length ≤ 24) : MeshOk xs.length (meshesF N xs) :=
  ⟨by have := meshL_length N xs xs.length; unfold meshesF; omega, fun k hk => by
    obtain ⟨h1, h2, h3⟩ := meshL_ok hN xs.length (Nat.le_refl _) k hk
    exact ⟨h1, h2, by unfold meshesF; omega⟩⟩
theorem infoN : (Tryz.prog.info? 25).map (fun i => (i.zero, i.size, i.bytes)) = some (some (.slice none 0 0), 1, 24) := by kernel_rfl
theorem Ints.grown {B B' : Nat} {w w' : World} {A : Option Addr} {xs : List Int} {row : Option Nat} (h : Ints B w A xs) (hg : w.grownBy w' row) (hne : ∀ ad, A = some ad → some ad.block ≠ row) (hB : B ≤ B') : Ints B' w' A xs := by
  intro hn
  obtain ⟨ad, e, hlt, hc⟩ := h hn
  exact ⟨ad, e, by omega, fun k hk => hg.cell (hc k hk) (by rw [block_add]; exact hne ad e)⟩
/-- A row of slices of numbers that the call owns; each of them lies apart from the row. -/
structure OwnN (base : Nat) (w : World) (v : Value) (xss : List (List Int)) (vs : List Value) : Prop where
  row : w.ownsRow base 25 1 v xss.length vs
  el : ∀ k, k < xss.length → ∃ A' c, vs[k]? = some (.slice A' (xss.getD k []).length c) ∧ Ints w.heap.size w A' (xss.getD k []) ∧ ∀ ad, A' = some ad → base ≤ ad.block ∧ ad.block < w.heap.size ∧ v.ownBlock ≠ some ad.block
theorem OwnN.nil_ (base : Nat) (w : World) : OwnN base w (.slice none 0 0) [] [] := ⟨World.ownsRow_nil _ _ _ _, fun k h => by simp at h⟩
theorem OwnN.empty {base : Nat} {w : World} (h : base ≤ w.heap.size) : OwnN base (w.alloc (.cells #[] 25)) (.slice (some ⟨w.heap.size, 0, none⟩) 0 0) [] [] :=
  ⟨⟨rfl, .inr ⟨w.heap.size, 0, #[], rfl, h, heap_alloc_new w _, Nat.le_refl _, by simp [maxLen], rfl, rfl⟩⟩, fun k h => by simp at h⟩
theorem OwnN.later {base : Nat} {w w' : World} {v : Value} {xss : List (List Int)} {vs : List Value} (h : OwnN base w v xss vs) (hb : Below w.heap.size w w') : OwnN base w' v xss vs := by
  refine ⟨World.ownsRow.kept h.row (Below.grownBy hb none) (by cases v.ownBlock <;> simp), fun k hk => ?_⟩
  obtain ⟨A', c, h1, h2, h3⟩ := h.el k hk
  exact ⟨A', c, h1, (h2.below hb).more hb.size, fun ad ha => by obtain ⟨g1, g2, g3⟩ := h3 ad ha; exact ⟨g1, Nat.lt_of_lt_of_le g2 hb.size, g3⟩⟩
theorem OwnN.less {b b' : Nat} {w : World} {v : Value} {xss : List (List Int)} {vs : List Value} (h : OwnN b w v xss vs) (hb : b' ≤ b) : OwnN b' w v xss vs := by
  refine ⟨⟨h.row.1, ?_⟩, fun k hk => ?_⟩
  · rcases h.row.2 with hn | ⟨g, cap, cur, rfl, h1, rest⟩
    · exact .inl hn
    · exact .inr ⟨g, cap, cur, rfl, by omega, rest⟩
  · obtain ⟨A', c, h1, h2, h3⟩ := h.el k hk
    exact ⟨A', c, h1, h2, fun ad ha => by obtain ⟨g1, g2, g3⟩ := h3 ad ha; exact ⟨by omega, g2, g3⟩⟩
/-- As a list of lists that is only read. -/
theorem OwnN.slice {base : Nat} {w : World} {v : Value} {xss : List (List Int)} {vs : List Value} (h : OwnN base w v xss vs) : ∃ A c, v = .slice A xss.length c ∧ NestL base w.heap.size w A xss := by
  have hr := h.row
  rcases hr.2 with ⟨rfl, h0⟩ | ⟨g, cap, cur, rfl, hb, hg, _⟩
  · obtain rfl := List.eq_nil_of_length_eq_zero h0
    exact ⟨none, 0, rfl, fun hn => by simp at hn⟩
  · refine ⟨some ⟨g, 0, none⟩, cap, rfl, fun _ => ⟨g, 0, rfl, hb, (Array.getElem?_eq_some_iff.1 hg).1, fun k hk => ?_⟩⟩
    obtain ⟨A', c, h1, h2, h3⟩ := h.el k hk
    rw [getD_il hk] at h1 h2
    refine ⟨A', c, ?_, h2, fun ad ha => (h3 ad ha).1⟩
    rw [Nat.zero_add, World.ownsRow.cellAt hr k (by omega)]
    exact h1
theorem OwnN.push {base b5 : Nat} {w w1 : World} {u av : Value} {A5 : Option Addr} {c5 n5 : Nat} {xss : List (List Int)} {xs : List Int} {vs : List Value} {T : TypeId} (h : OwnN base w u xss vs) (h5 : Own b5 w (.slice A5 n5 c5) xs) (hb : base ≤ b5) (hap : ∀ g, u.ownBlock = some g → g < b5) (hB : base ≤ w.heap.size)
    (ah : w1.ownsRow base 25 1 av (xss.length + 1) (vs ++ [.slice A5 n5 c5])) (ag : (w.alloc (.cells #[.slice A5 n5 c5] T)).grownBy w1 u.ownBlock) (aa : av.ownBlock = u.ownBlock ∨ av.ownBlock = some (w.alloc (.cells #[.slice A5 n5 c5] T)).heap.size) :
    OwnN base w1 av (xss ++ [xs]) (vs ++ [.slice A5 n5 c5]) ∧ Below base w w1 := by
  have hsz : w.heap.size < w1.heap.size := by have := ag.size; simp at this; omega
  have hlen : vs.length = xss.length := by have := h.row.1; omega
  have key : ∀ {A' : Option Addr} {ys : List Int}, Ints w.heap.size w A' ys → (∀ ad, A' = some ad → ad.block < w.heap.size ∧ u.ownBlock ≠ some ad.block) → Ints w1.heap.size w1 A' ys := by
    intro A' ys hI hne
    have h1 : Ints w.heap.size (w.alloc (.cells #[.slice A5 n5 c5] T)) A' ys := hI.below ((Below.refl _ _).alloc (Nat.le_refl _) _)
    exact h1.grown ag (fun ad ha => fun e => (hne ad ha).2 e.symm) (by omega)
  have hout : ∀ {ad : Addr}, ad.block < w.heap.size → u.ownBlock ≠ some ad.block → av.ownBlock ≠ some ad.block := by
    intro ad h1 h2 e
    rcases aa with e2 | e2
    · exact h2 (e2.symm.trans e)
    · rw [e2] at e
      injection e with e
      simp at e
      omega
  refine ⟨⟨by rw [List.length_append]; exact ah, fun k hk => ?_⟩, ((Below.refl base w).alloc hB _).grown ag (by simp; omega) (fun g hg => (World.ownsRow.lt h.row g hg).1)⟩
  by_cases e : k < xss.length
  · obtain ⟨A', c, g1, g2, g3⟩ := h.el k e
    rw [getD_app e]
    refine ⟨A', c, by rw [List.getElem?_append_left (by omega)]; exact g1, key g2 (fun ad ha => (g3 ad ha).2), fun ad ha => ?_⟩
    obtain ⟨f1, f2, f3⟩ := g3 ad ha
    exact ⟨f1, by omega, hout f2 f3⟩
  · have e : k = xss.length := by simp at hk; omega
    subst e
    rw [getD_last]
    obtain ⟨A', c', he, hI, hat⟩ := h5.slice
    injection he with e1 e2 e3
    subst e1 e2 e3
    have hne : ∀ ad, A5 = some ad → ad.block < w.heap.size ∧ u.ownBlock ≠ some ad.block := fun ad ha => by
      obtain ⟨_, f2, f3⟩ := hat ad ha
      exact ⟨f3, fun e => by have := hap _ e; omega⟩
    refine ⟨A5, c5, by rw [← hlen]; simp, key hI hne, fun ad ha => ?_⟩
    obtain ⟨_, f2, f3⟩ := hat ad ha
    exact ⟨by omega, by omega, hout f3 (hne ad ha).2⟩
theorem Own.joined {base n : Nat} {w : World} {v : Value} {x : Int} {ys : List Int} (h : w.ownsRow base 2 1 v n (vals [x] ++ vals ys)) (hn : n = 1 + ys.length) : Own base w v (x :: ys) := by
  unfold Own
  subst hn
  rw [← vals_append] at h
  rw [show (x :: ys).length = 1 + ys.length by simp; omega]
  exact h
set_option maxRecDepth 100000 in
set_option maxHeartbeats 3200000 in
theorem meshes_any (N : Nat) (A : Option Addr) (cp : Nat) (xs : List Aw) (w : World) (hI : Recs encA 7 w.heap.size w A xs) (hm : mineB (N : Int) xs = true) :
    Calls Tryz.prog 93 #[.agg #[.int .i64 (N : Int), .slice A xs.length cp]] w fun e w' => ∃ v vs, e = .returned v ∧ OwnN w.heap.size w' v (meshesF N xs) vs ∧ Below w.heap.size w w' := by
  obtain ⟨⟨n1, n2⟩, nx, _⟩ := mineB_bd hm
  have HM := Lib.hid hm
  have HE := Lib.hid (fun p (hp : p < xs.length) => mine_ends hm hp)
  have hN1 : 1 ≤ N := by omega
  have hN2 : N ≤ 16 := by omega
  have hxn : xs.length ≤ 24 := by omega
  obtain ⟨i0, hi, hz0, hz1, hz2⟩ := info_parts infoI
  have HF := Lib.hid (And.intro hi (And.intro hz0 (And.intro hz1 hz2)))
  obtain ⟨i1, hj, hy0, hy1, hy2⟩ := info_parts infoN
  have HG := Lib.hid (And.intro hj (And.intro hy0 (And.intro hy1 hy2)))
  have be0 : Below w.heap.size w (w.alloc (.cells #[.int .i64 (N : Int), .slice A xs.length cp] 33)) := by go_grown
  have k0 : (w.alloc (.cells #[.int .i64 (N : Int), .slice A xs.length cp] 33)).cell? ⟨w.heap.size, 0, none⟩ = some (.int .i64 (N : Int)) := by go_simp
  have k1 : (w.alloc (.cells #[.int .i64 (N : Int), .slice A xs.length cp] 33)).cell? ⟨w.heap.size, 1, none⟩ = some (.slice A xs.length cp) := by go_simp
  have J0 := Lib.hid ((hI.below be0).more be0.size)
  clear hI hm n1 n2 nx hi hz0 hz1 hz2 hj hy0 hy1 hy2
  go_enter Tryz.func93, Tryz.ntmps93
  go_wp2_with fail
  generalize hw0 : (w.alloc (.cells #[.int .i64 (N : Int), .slice A xs.length cp] 33)) = w0 at *
  clear hw0
  refine (tree_any N A cp xs w0 J0.out HM.out).mono ?_
  rintro e w1 ⟨u1, rfl, ho1, hb1⟩
  obtain ⟨AT, ct, rfl, hti, -⟩ := ho1.slice
  have HTI := Lib.hid hti
  have HTL : Hid ((forest N xs).length ≤ xs.length) := Lib.hid (treeL_length N xs xs.length)
  have htl : (forest N xs).length ≤ 24 := by have := HTL.out; omega
  have HOK : Hid (IdxOk xs.length (forest N xs)) := Lib.hid (treeL_ok N xs xs.length)
  have K0 := Lib.hid (cell_later hb1 k0)
  have K1 := Lib.hid (cell_later hb1 k1)
  have J1 := Lib.hid ((J0.out.below hb1).more hb1.size)
  have hz01 := hb1.size
  have HB1 := Lib.hid (be0.trans (hb1.mono be0.size))
  have k0' := K0.out
  have k1' := K1.out
  clear ho1 hti k0 k1
  go_wp2_with fail
  clear k0' k1'
  go_loopw [4, 14] (fun u kk wr => ∃ (k : Nat) (vs : List Value), k ≤ xs.length ∧ kk = .int .i64 k ∧ Below w1.heap.size w1 wr ∧ OwnN w1.heap.size wr u (meshL N xs k) vs) (fun _ kk _ => xs.length - (intOf kk).toNat)
  case atStart => exact ⟨0, [], Nat.zero_le _, rfl, Below.refl _ _, OwnN.nil_ _ _⟩
  case round =>
    obtain ⟨k, vs, hk, rfl, hb, ho⟩ := hrel
    have m0 := cell_later hb K0.out
    have m1 := cell_later hb K1.out
    have hml := meshL_length N xs k
    obtain ⟨AV, cv, hv, -⟩ := ho.slice
    by_cases hlt : k < xs.length
    · obtain ⟨F, T, hF, hT, hFN, hTN, _⟩ := HE.out k hlt
      have hSM : meshL N xs (k + 1) = if (forest N xs).contains (k : Int) then meshL N xs k else meshL N xs k ++ [((k : Int) + 1) :: (pathF N (edsA xs (forest N xs)) (T : Int) (F : Int)).1] := by
        have e : meshL N xs (k + 1) = if (forest N xs).contains (k : Int) then meshL N xs k else meshL N xs k ++ [((k : Int) + 1) :: (pathF N (edsA xs (forest N xs)) (xs.getD k aNone).t (xs.getD k aNone).f).1] := rfl
        rw [e, hF, hT]
      have HSM := Lib.hid hSM
      obtain ⟨⟨s, f, t, l, c, r, q⟩, hax⟩ : ∃ x, xs.getD k aNone = x := ⟨_, rfl⟩
      obtain ⟨b, o, hA, hab, c0, c1, c2, c3, c4, c5, c6⟩ := (J1.out.below hb).cells7 hlt hax
      subst hA
      rw [hax] at hF hT
      have hF : f = (F : Int) := hF
      have hT : t = (T : Int) := hT
      subst hF hT
      have i0' : (0 : Int) ≤ (k : Int) := by omega
      have i1' : (k : Int) < xs.length := by omega
      have hsz := hb.size
      have hba : Below wr.heap.size wr (wr.alloc (.cells #[.string s, .int .i64 (F : Int), .int .i64 (T : Int), .int .i64 l, .int .i64 c, .int .i64 r, .int .i64 q] 99)) := (Below.refl _ _).alloc (Nat.le_refl _) _
      have a1 : ((wr.alloc (.cells #[.string s, .int .i64 (F : Int), .int .i64 (T : Int), .int .i64 l, .int .i64 c, .int .i64 r, .int .i64 q] 99))).cell? ⟨wr.heap.size, 1, none⟩ = some (.int .i64 (F : Int)) := by go_simp
      have a2 : ((wr.alloc (.cells #[.string s, .int .i64 (F : Int), .int .i64 (T : Int), .int .i64 l, .int .i64 c, .int .i64 r, .int .i64 q] 99))).cell? ⟨wr.heap.size, 2, none⟩ = some (.int .i64 (T : Int)) := by go_simp
      have HO := Lib.hid ho
      obtain ⟨cb, hcb⟩ : ∃ cb, (forest N xs).contains (k : Int) = cb := ⟨_, rfl⟩
      rw [hcb] at HSM
      have HCC := Lib.hid (fun W hI => eqb (Contains_any AT ct (forest N xs) (k : Int) w1.heap.size W (by omega) hI) hcb)
      subst hv
      clear ho hax hSM hcb
      go_wp2_with fail
      have m0' := cell_later hba m0
      have m1' := cell_later hba m1
      have hbw : Below w1.heap.size w1 (wr.alloc (.cells #[.string s, .int .i64 (F : Int), .int .i64 (T : Int), .int .i64 l, .int .i64 c, .int .i64 r, .int .i64 q] 99)) := hb.trans (hba.mono hsz)
      have HO2 := Lib.hid (HO.out.later hba)
      have hzwa : wr.heap.size ≤ ((wr.alloc (.cells #[.string s, .int .i64 (F : Int), .int .i64 (T : Int), .int .i64 l, .int .i64 c, .int .i64 r, .int .i64 q] 99))).heap.size := hba.size
      generalize (wr.alloc (.cells #[.string s, .int .i64 (F : Int), .int .i64 (T : Int), .int .i64 l, .int .i64 c, .int .i64 r, .int .i64 q] 99)) = wa at *
      clear c0 c1 c2 c3 c4 c5 c6 m0 m1 hba
      refine (HCC.out _ (HTI.out.below hbw)).mono ?_
      rintro e w2 ⟨rfl, rfl⟩
      cases cb
      · have HS4 : Hid (meshL N xs (k + 1) = meshL N xs k ++ [((k : Int) + 1) :: (pathF N (edsA xs (forest N xs)) (T : Int) (F : Int)).1]) := Lib.hid (by rw [HSM.out]; rfl)
        have hpl := pathF_len (N := N) (G := edsA xs (forest N xs)) (a := (T : Int)) (to := (F : Int))
        have HPA := Lib.hid (path_any N (some ⟨b, o, none⟩) cp xs T F AT ct (forest N xs) wa ((J1.out.below hbw).more hbw.size) HM.out ((HTI.out.below hbw).more hbw.size) HOK.out htl hTN hFN)
        clear HSM HCC
        generalize (pathF N (edsA xs (forest N xs)) (T : Int) (F : Int)).2 = pb at *
        generalize (pathF N (edsA xs (forest N xs)) (T : Int) (F : Int)).1 = ps at *
        generalize meshL N xs k = M at *
        go_wp2_with fail
        refine HPA.out.mono ?_
        rintro e w3 ⟨u3, rfl, ho3, hb3⟩
        have hbw3 := hbw.trans (hb3.mono hbw.size)
        have HN3 := Lib.hid (HO2.out.later hb3)
        have hsz3 := hb3.size
        have hap : ∀ g, (Value.slice AV M.length cv).ownBlock = some g → g < w3.heap.size := fun g hg => (World.ownsRow.lt HN3.out.row g hg).2
        have HAP := Lib.hid hap
        clear HPA m0' m1' a1 a2 HO HO2 hap
        rcases ho3.form with ⟨rfl, hnil⟩ | ⟨g3, c3, rfl, hg3, hlt3⟩
        · subst hnil
          have hb5 : Below w3.heap.size w3 (w3.alloc (.cells #[.int .i64 ((k : Int) + 1)] 2)) := (Below.refl _ w3).alloc (Nat.le_refl _) _
          have HO5 := Lib.hid (Own.one ((k : Int) + 1) (Nat.le_refl w3.heap.size))
          have HN5 := Lib.hid (HN3.out.later hb5)
          have hsz5 : w3.heap.size ≤ (w3.alloc (.cells #[.int .i64 ((k : Int) + 1)] 2)).heap.size := hb5.size
          have HQ : Hid (∀ j u, [Value.slice (some ⟨w3.heap.size, 0, none⟩) 1 1][j]? = some u → ((w3.alloc (.cells #[.int .i64 ((k : Int) + 1)] 2)).alloc (.cells #[.slice (some ⟨w3.heap.size, 0, none⟩) 1 1] 25)).cell? ((⟨w3.heap.size + 1, 0, none⟩ : Addr).add j) = some u) := Lib.hid (by
            have h := cell_one_new (w3.alloc (.cells #[.int .i64 ((k : Int) + 1)] 2)) (.slice (some ⟨w3.heap.size, 0, none⟩) 1 1) 25
            rw [World.size_alloc] at h
            exact h)
          clear ho3
          go_wp2_with (first | (at_builtin; refine wpList_append_own_at _ rfl _ _ 48 rfl w1.heap.size 25 i1 (.slice none 0 0) 1 24 Tryz.underlying48 HG.out.1 HG.out.2.1 HG.out.2.2.1 HG.out.2.2.2 rfl (by decide) _ _ _ rfl (World.ownsRow.alloc HN5.out.row _) ⟨w3.heap.size + 1, 0, none⟩ 1 1 [_] rfl rfl HQ.out (by intro u hu; simp at hu; subst hu; rfl) (le_max (by omega)) (by omega) (by simp; omega) ?_; intro av w6 ah ag an aa) | fail)
          obtain ⟨hN6, hb6⟩ := OwnN.push HN5.out HO5.out (by omega) HAP.out (by omega) ah ag aa
          have HN6 := Lib.hid hN6
          have hbw6 : Below w1.heap.size w1 w6 := (hbw3.trans (hb5.mono hbw3.size)).trans hb6
          clear ah ag an aa hN6 hb6
          go_wp2
          go_roundw
          case rel => exact ⟨k + 1, _, by omega, by go_num, hbw6, by rw [HS4.out]; exact HN6.out⟩
          case measure => simp [intOf]; omega
        · have HNEW : Hid (∀ j u, (vals ps)[j]? = some u → (w3.alloc (.cells #[.int .i64 ((k : Int) + 1)] 2)).cell? ((⟨g3, 0, none⟩ : Addr).add j) = some u) := Lib.hid (fun j u hj => Lib.cell?_alloc_some _ (World.ownsRow.cells ho3 rfl j u hj))
          have HONE : Hid (∀ u ∈ vals ps, u.oneCell' = true) := Lib.hid (by
            intro u hu
            unfold vals at hu
            obtain ⟨x, _, rfl⟩ := List.mem_map.1 hu
            rfl)
          clear ho3
          go_wp2_with (first | (at_builtin; refine wpList_append_own_at _ rfl _ _ 48 rfl w1.heap.size 25 i1 (.slice none 0 0) 1 24 Tryz.underlying48 HG.out.1 HG.out.2.1 HG.out.2.2.1 HG.out.2.2.2 rfl (by decide) _ _ _ rfl (World.ownsRow.alloc HN5.out.row _) ⟨w5.heap.size, 0, none⟩ 1 1 [_] rfl rfl (cell_one_new _ _ _) (by intro u hu; simp at hu; subst hu; rfl) (le_max (by omega)) (by omega) (by simp; omega) ?_; intro av w6 ah ag an aa) | (at_builtin; refine wpList_append_own _ rfl _ _ 25 rfl w3.heap.size 2 i0 (.int .i64 0) 1 8 Tryz.underlying25 HF.out.1 HF.out.2.1 HF.out.2.2.1 HF.out.2.2.2 rfl (by decide) _ 1 (vals [(k : Int) + 1]) rfl (Own.one ((k : Int) + 1) (Nat.le_refl w3.heap.size)) ⟨g3, 0, none⟩ ps.length c3 (vals ps) rfl (by rw [vals_length, Nat.mul_one]) HNEW.out HONE.out (le_max (by omega)) (by omega) (by simp) ?_; intro v5 w5 hown5 hgrow5 hnil5; have ho5 : Own w3.heap.size w5 v5 (((k : Int) + 1) :: ps) := Own.joined hown5 rfl; have hb5 : Below w3.heap.size w3 w5 := ((Below.refl _ w3).alloc (Nat.le_refl _) _).grown hgrow5 (by simp) (fun j hj => by cases hj; exact Nat.le_refl _); obtain ⟨A5, c5, rfl, -, -⟩ := ho5.slice; have HO5 := Lib.hid ho5; have HN5 := Lib.hid (HN3.out.later hb5); have hsz5 : w3.heap.size ≤ w5.heap.size := hb5.size; clear hown5 hgrow5 hnil5 ho5) | fail)
          obtain ⟨hN6, hb6⟩ := OwnN.push HN5.out HO5.out (by omega) HAP.out (by omega) ah ag aa
          have HN6 := Lib.hid hN6
          have hbw6 : Below w1.heap.size w1 w6 := (hbw3.trans (hb5.mono hbw3.size)).trans hb6
          clear ah ag an aa hN6 hb6
          go_wp2
          go_roundw
          case rel => exact ⟨k + 1, _, by omega, by go_num, hbw6, by rw [HS4.out]; exact HN6.out⟩
          case measure => simp [intOf]; omega
      · have HS4 : Hid (meshL N xs (k + 1) = meshL N xs k) := Lib.hid (by rw [HSM.out]; rfl)
        clear HSM
        go_wp2_with fail
        go_roundw
        case rel => exact ⟨k + 1, _, by omega, by go_num, hbw, by rw [HS4.out]; exact HO2.out⟩
        case measure => simp [intOf]; omega
    · obtain rfl : k = xs.length := by omega
      have HO := Lib.hid ho
      clear ho
      go_wp2
      go_ret
      exact ⟨_, _, rfl, HO.out.less (by have := HB1.out.size; omega), HB1.out.trans (hb.mono HB1.out.size)⟩
set_option maxRecDepth 100000 in
set_option maxHeartbeats 3200000 in
theorem l04Meshes_any (bm om : Nat) (N : Nat) (A : Option Addr) (cp : Nat) (xs : List Aw) (w : World) (hI : Recs encA 7 w.heap.size w A xs) (hm : mineB (N : Int) xs = true)
    (m0 : w.cell? ⟨bm, om, none⟩ = some (.int .i64 (N : Int))) (mm : w.cell? ⟨bm, om + 1, none⟩ = some (.slice A xs.length cp)) :
    Calls Tryz.prog 109 #[.pointer (some ⟨bm, om, none⟩)] w fun e w' => ∃ v vs, e = .returned v ∧ OwnN w.heap.size w' v (meshesF N xs) vs ∧ Below w.heap.size w w' := by
  obtain ⟨⟨n1, n2⟩, nx, _⟩ := mineB_bd hm
  have HM := Lib.hid hm
  have HE := Lib.hid (fun p (hp : p < xs.length) => mine_ends hm hp)
  have hN1 : 1 ≤ N := by omega
  have hN2 : N ≤ 16 := by omega
  have hxn : xs.length ≤ 24 := by omega
  obtain ⟨i0, hi, hz0, hz1, hz2⟩ := info_parts infoI
  have HF := Lib.hid (And.intro hi (And.intro hz0 (And.intro hz1 hz2)))
  obtain ⟨i1, hj, hy0, hy1, hy2⟩ := info_parts infoN
  have HG := Lib.hid (And.intro hj (And.intro hy0 (And.intro hy1 hy2)))
  have J0 := Lib.hid hI
  have HT0 := Lib.hid (l04Tree_any bm om N A cp xs w hI hm m0 mm)
  clear hI hm n1 n2 nx hi hz0 hz1 hz2 hj hy0 hy1 hy2
  have hbm : bm < w.heap.size := World.block_lt_of_cell? _ _ m0
  go_enter Tryz.func109, Tryz.ntmps109
  go_wp2_with fail
  refine HT0.out.mono ?_
  rintro e w1 ⟨u1, rfl, ho1, hb1⟩
  obtain ⟨AT, ct, rfl, hti, -⟩ := ho1.slice
  have HTI := Lib.hid hti
  have HTL : Hid ((forest N xs).length ≤ xs.length) := Lib.hid (treeL_length N xs xs.length)
  have htl : (forest N xs).length ≤ 24 := by have := HTL.out; omega
  have HOK : Hid (IdxOk xs.length (forest N xs)) := Lib.hid (treeL_ok N xs xs.length)
  have K0 := Lib.hid (cell_later hb1 m0)
  have K1 := Lib.hid (cell_later hb1 mm)
  have J1 := Lib.hid ((J0.out.below hb1).more hb1.size)
  have hz01 := hb1.size
  have HB1 := Lib.hid hb1
  clear ho1 hti m0 mm hb1
  go_wp2_with fail
  go_loopw [4, 5] (fun u kk wr => ∃ (k : Nat) (vs : List Value), k ≤ xs.length ∧ kk = .int .i64 k ∧ Below w1.heap.size w1 wr ∧ OwnN w1.heap.size wr u (meshL N xs k) vs) (fun _ kk _ => xs.length - (intOf kk).toNat)
  case atStart => exact ⟨0, [], Nat.zero_le _, rfl, (Below.refl _ _).alloc (Nat.le_refl _) _, OwnN.empty (Nat.le_refl _)⟩
  case round =>
    obtain ⟨k, vs, hk, rfl, hb, ho⟩ := hrel
    have m0 := cell_later hb K0.out
    have m1 := cell_later hb K1.out
    have hml := meshL_length N xs k
    obtain ⟨AV, cv, hv, -⟩ := ho.slice
    by_cases hlt : k < xs.length
    · obtain ⟨F, T, hF, hT, hFN, hTN, _⟩ := HE.out k hlt
      have hSM : meshL N xs (k + 1) = if (forest N xs).contains (k : Int) then meshL N xs k else meshL N xs k ++ [((k : Int) + 1) :: (pathF N (edsA xs (forest N xs)) (T : Int) (F : Int)).1] := by
        have e : meshL N xs (k + 1) = if (forest N xs).contains (k : Int) then meshL N xs k else meshL N xs k ++ [((k : Int) + 1) :: (pathF N (edsA xs (forest N xs)) (xs.getD k aNone).t (xs.getD k aNone).f).1] := rfl
        rw [e, hF, hT]
      have HSM := Lib.hid hSM
      obtain ⟨⟨s, f, t, l, c, r, q⟩, hax⟩ : ∃ x, xs.getD k aNone = x := ⟨_, rfl⟩
      obtain ⟨b, o, hA, hab, -, c1, c2, -⟩ := (J1.out.below hb).cells7 hlt hax
      subst hA
      rw [hax] at hF hT
      have hF : f = (F : Int) := hF
      have hT : t = (T : Int) := hT
      subst hF hT
      have i0' : (0 : Int) ≤ (k : Int) := by omega
      have i1' : (k : Int) < xs.length := by omega
      have hsz := hb.size
      have HO2 := Lib.hid ho
      obtain ⟨cb, hcb⟩ : ∃ cb, (forest N xs).contains (k : Int) = cb := ⟨_, rfl⟩
      rw [hcb] at HSM
      have HCC := Lib.hid (fun W hI => eqb (l00Has_any AT ct (forest N xs) (k : Int) w1.heap.size W (by omega) hI) hcb)
      subst hv
      clear ho hax hSM hcb
      go_wp2_with fail
      refine (HCC.out _ (HTI.out.below hb)).mono ?_
      rintro e w2 ⟨rfl, rfl⟩
      cases cb
      · have HS4 : Hid (meshL N xs (k + 1) = meshL N xs k ++ [((k : Int) + 1) :: (pathF N (edsA xs (forest N xs)) (T : Int) (F : Int)).1]) := Lib.hid (by rw [HSM.out]; rfl)
        have hpl := pathF_len (N := N) (G := edsA xs (forest N xs)) (a := (T : Int)) (to := (F : Int))
        have HPA := Lib.hid (fun (W : World) (hW : Below w1.heap.size w1 W) h0 h1 => l04Walk_any bm om N (some ⟨b, o, none⟩) cp xs AT ct (forest N xs) T F W ((J1.out.below hW).more hW.size) HM.out ((HTI.out.below hW).more hW.size) HOK.out htl hTN hFN h0 h1)
        clear HSM HCC
        generalize (pathF N (edsA xs (forest N xs)) (T : Int) (F : Int)).2 = pb at *
        generalize (pathF N (edsA xs (forest N xs)) (T : Int) (F : Int)).1 = ps at *
        generalize meshL N xs k = M at *
        go_wp2_with fail
        go_region_held3 (fun w' => (w'.cell? ⟨bm, om, none⟩ = some (.int .i64 (N : Int)) ∧ w'.cell? ⟨bm, om + 1, none⟩ = some (.slice (some ⟨b, o, none⟩) xs.length cp)) ∧ (w'.cell? ⟨b, o + k * 7 + 1, none⟩ = some (.int .i64 (F : Int)) ∧ w'.cell? ⟨b, o + k * 7 + 2, none⟩ = some (.int .i64 (T : Int))))
          (first
            | go_keep
            | exact ⟨⟨cell_later hbX m0, cell_later hbX m1⟩, cell_later hbX c1, cell_later hbX c2⟩)
          (first
            | (go_at_call 145; refine (HPA.out _ (by first | exact hb | exact hb.drew) (by assumption) (by assumption)).mono ?_; rintro e w3 ⟨u3, rfl, ho3, hb3⟩; have hbX : Below wr.heap.size wr w3 := (by first | exact hb3 | exact (Below.refl wr.heap.size wr).drew.trans (hb3.mono (Nat.le_refl _)))))
        have hbw3 := hb.trans (hbX.mono hb.size)
        have HN3 := Lib.hid (HO2.out.later hbX)
        have hsz3 := hbX.size
        have hap : ∀ g, (Value.slice AV M.length cv).ownBlock = some g → g < w3.heap.size := fun g hg => (World.ownsRow.lt HN3.out.row g hg).2
        have HAP := Lib.hid hap
        clear HPA m0 m1 c1 c2 HO2 hap
        clear hb3
        rcases ho3.form with ⟨rfl, hnil⟩ | ⟨g3, c3, rfl, hg3, hlt3⟩
        · subst hnil
          have hb5 : Below w3.heap.size w3 (w3.alloc (.cells #[.int .i64 ((k : Int) + 1)] 2)) := (Below.refl _ w3).alloc (Nat.le_refl _) _
          have HO5 := Lib.hid (Own.one ((k : Int) + 1) (Nat.le_refl w3.heap.size))
          have HN5 := Lib.hid (HN3.out.later hb5)
          have hsz5 : w3.heap.size ≤ (w3.alloc (.cells #[.int .i64 ((k : Int) + 1)] 2)).heap.size := hb5.size
          have HQ : Hid (∀ j u, [Value.slice (some ⟨w3.heap.size, 0, none⟩) 1 1][j]? = some u → ((w3.alloc (.cells #[.int .i64 ((k : Int) + 1)] 2)).alloc (.cells #[.slice (some ⟨w3.heap.size, 0, none⟩) 1 1] 25)).cell? ((⟨w3.heap.size + 1, 0, none⟩ : Addr).add j) = some u) := Lib.hid (by
            have h := cell_one_new (w3.alloc (.cells #[.int .i64 ((k : Int) + 1)] 2)) (.slice (some ⟨w3.heap.size, 0, none⟩) 1 1) 25
            rw [World.size_alloc] at h
            exact h)
          clear ho3
          go_wp2_with (first | (at_builtin; refine wpList_append_own_at _ rfl _ _ 48 rfl w1.heap.size 25 i1 (.slice none 0 0) 1 24 Tryz.underlying48 HG.out.1 HG.out.2.1 HG.out.2.2.1 HG.out.2.2.2 rfl (by decide) _ _ _ rfl (World.ownsRow.alloc HN5.out.row _) ⟨w3.heap.size + 1, 0, none⟩ 1 1 [_] rfl rfl HQ.out (by intro u hu; simp at hu; subst hu; rfl) (le_max (by omega)) (by omega) (by simp; omega) ?_; intro av w6 ah ag an aa) | fail)
          obtain ⟨hN6, hb6⟩ := OwnN.push HN5.out HO5.out (by omega) HAP.out (by omega) ah ag aa
          have HN6 := Lib.hid hN6
          have hbw6 : Below w1.heap.size w1 w6 := (hbw3.trans (hb5.mono hbw3.size)).trans hb6
          clear ah ag an aa hN6 hb6
          go_wp2
          go_roundw
          case rel => exact ⟨k + 1, _, by omega, by go_num, hbw6, by rw [HS4.out]; exact HN6.out⟩
          case measure => simp [intOf]; omega
        · have HNEW : Hid (∀ j u, (vals ps)[j]? = some u → (w3.alloc (.cells #[.int .i64 ((k : Int) + 1)] 2)).cell? ((⟨g3, 0, none⟩ : Addr).add j) = some u) := Lib.hid (fun j u hj => Lib.cell?_alloc_some _ (World.ownsRow.cells ho3 rfl j u hj))
          have HONE : Hid (∀ u ∈ vals ps, u.oneCell' = true) := Lib.hid (by
            intro u hu
            unfold vals at hu
            obtain ⟨x, _, rfl⟩ := List.mem_map.1 hu
            rfl)
          clear ho3
          go_wp2_with (first | (at_builtin; refine wpList_append_own_at _ rfl _ _ 48 rfl w1.heap.size 25 i1 (.slice none 0 0) 1 24 Tryz.underlying48 HG.out.1 HG.out.2.1 HG.out.2.2.1 HG.out.2.2.2 rfl (by decide) _ _ _ rfl (World.ownsRow.alloc HN5.out.row _) ⟨w5.heap.size, 0, none⟩ 1 1 [_] rfl rfl (cell_one_new _ _ _) (by intro u hu; simp at hu; subst hu; rfl) (le_max (by omega)) (by omega) (by simp; omega) ?_; intro av w6 ah ag an aa) | (at_builtin; refine wpList_append_own _ rfl _ _ 25 rfl w3.heap.size 2 i0 (.int .i64 0) 1 8 Tryz.underlying25 HF.out.1 HF.out.2.1 HF.out.2.2.1 HF.out.2.2.2 rfl (by decide) _ 1 (vals [(k : Int) + 1]) rfl (Own.one ((k : Int) + 1) (Nat.le_refl w3.heap.size)) ⟨g3, 0, none⟩ ps.length c3 (vals ps) rfl (by rw [vals_length, Nat.mul_one]) HNEW.out HONE.out (le_max (by omega)) (by omega) (by simp) ?_; intro v5 w5 hown5 hgrow5 hnil5; have ho5 : Own w3.heap.size w5 v5 (((k : Int) + 1) :: ps) := Own.joined hown5 rfl; have hb5 : Below w3.heap.size w3 w5 := ((Below.refl _ w3).alloc (Nat.le_refl _) _).grown hgrow5 (by simp) (fun j hj => by cases hj; exact Nat.le_refl _); obtain ⟨A5, c5, rfl, -, -⟩ := ho5.slice; have HO5 := Lib.hid ho5; have HN5 := Lib.hid (HN3.out.later hb5); have hsz5 : w3.heap.size ≤ w5.heap.size := hb5.size; clear hown5 hgrow5 hnil5 ho5) | fail)
          obtain ⟨hN6, hb6⟩ := OwnN.push HN5.out HO5.out (by omega) HAP.out (by omega) ah ag aa
          have HN6 := Lib.hid hN6
          have hbw6 : Below w1.heap.size w1 w6 := (hbw3.trans (hb5.mono hbw3.size)).trans hb6
          clear ah ag an aa hN6 hb6
          go_wp2
          go_roundw
          case rel => exact ⟨k + 1, _, by omega, by go_num, hbw6, by rw [HS4.out]; exact HN6.out⟩
          case measure => simp [intOf]; omega
      · have HS4 : Hid (meshL N xs (k + 1) = meshL N xs k) := Lib.hid (by rw [HSM.out]; rfl)
        clear HSM
        go_wp2_with fail
        go_roundw
        case rel => exact ⟨k + 1, _, by omega, by go_num, hb, by rw [HS4.out]; exact HO2.out⟩
        case measure => simp [intOf]; omega
    · obtain rfl : k = xs.length := by omega
      have HO := Lib.hid ho
      clear ho
      go_wp2
      go_ret
      exact ⟨_, _, rfl, HO.out.less (by have := HB1.out.size; omega), HB1.out.trans (hb.mono HB1.out.size)⟩
end Go.Proofs.YtejkoicgbgoiaaaGreat

/- Fans: the pressure at a flow, by the program and by the reference. Conditions: the facts on memory and on lengths that each theorem names. -/
namespace Go.Proofs.YtejkoicgbgoiaaaGreat
open Go.RowKit
open Pl
theorem lin_in {x0 y0 x1 y1 x : Int} (a0 : 0 ≤ x0 ∧ x0 ≤ 100000) (a1 : 0 ≤ x1 ∧ x1 ≤ 100000) (b0 : 0 ≤ y0 ∧ y0 ≤ 10000) (b1 : 0 ≤ y1 ∧ y1 ≤ 10000) (h1 : ¬ x ≤ x0) (h2 : ¬ x1 ≤ x) :
    -1000000000 ≤ (y1 - y0) * (x - x0) ∧ (y1 - y0) * (x - x0) ≤ 1000000000 := by
  have := mul_abs (a := y1 - y0) (b := x - x0) (A := 10000) (B := 100000) (by omega) (by omega) (by omega) (by omega)
  omega
theorem blend_any (x0 y0 x1 y1 x : Int) (w : World) (a0 : 0 ≤ x0 ∧ x0 ≤ 100000) (a1 : 0 ≤ x1 ∧ x1 ≤ 100000) (b0 : 0 ≤ y0 ∧ y0 ≤ 10000) (b1 : 0 ≤ y1 ∧ y1 ≤ 10000) (_ : -100000 ≤ x ∧ x ≤ 100000) :
    Calls Tryz.prog 164 #[.int .i64 x0, .int .i64 y0, .int .i64 x1, .int .i64 y1, .int .i64 x] w fun e w' => e = .returned (.int .i64 (linF x0 y0 x1 y1 x)) ∧ ∃ n, w.drewN n = w' := by
  by_cases h1 : x ≤ x0
  · have e : linF x0 y0 x1 y1 x = y0 := by unfold linF; rw [if_pos (.inl h1)]
    rw [e]
    go_enter Tryz.func164, Tryz.ntmps164
    go_wp2
    go_ret
    exact ⟨rfl, 0, rfl⟩
  by_cases h2 : x1 ≤ x0
  · have e : linF x0 y0 x1 y1 x = y0 := by unfold linF; rw [if_pos (.inr h2)]
    rw [e]
    go_enter Tryz.func164, Tryz.ntmps164
    go_wp2
    go_ret
    exact ⟨rfl, 0, rfl⟩
  by_cases h3 : x1 ≤ x
  · have e : linF x0 y0 x1 y1 x = y1 := by unfold linF; rw [if_neg (by omega), if_pos h3]
    rw [e]
    go_enter Tryz.func164, Tryz.ntmps164
    go_wp2
    go_ret
    exact ⟨rfl, 0, rfl⟩
  have e : linF x0 y0 x1 y1 x = y0 + divR ((y1 - y0) * (x - x0)) (x1 - x0) := by unfold linF; rw [if_neg (by omega), if_neg h3]
  have hb := linF_bd (x0 := x0) (y0 := y0) (x1 := x1) (y1 := y1) (x := x)
  have hp := lin_in (x := x) a0 a1 b0 b1 h1 h3
  have hd1 := divR_le (a := (y1 - y0) * (x - x0)) (b := x1 - x0) (c := 1000000000) (by omega) (by omega) (by omega)
  have hd2 := le_divR (a := (y1 - y0) * (x - x0)) (b := x1 - x0) (c := 1000000000) (by omega) (by omega) (by omega)
  have HC := Lib.hid (fun W => divRound_any ((y1 - y0) * (x - x0)) (x1 - x0) W (by omega) (by omega) (by omega) (by omega))
  rw [e]
  clear hb e
  generalize divR ((y1 - y0) * (x - x0)) (x1 - x0) = d at *
  go_enter Tryz.func164, Tryz.ntmps164
  go_wp2_with (go_at_call 132; refine (HC.out _).mono ?_; rintro e w' ⟨rfl, _, rfl⟩)
  go_ret
  exact ⟨rfl, _, rfl⟩
theorem l01Line_any (x0 y0 x1 y1 x : Int) (w : World) (a0 : 0 ≤ x0 ∧ x0 ≤ 100000) (a1 : 0 ≤ x1 ∧ x1 ≤ 100000) (b0 : 0 ≤ y0 ∧ y0 ≤ 10000) (b1 : 0 ≤ y1 ∧ y1 ≤ 10000) (_ : -100000 ≤ x ∧ x ≤ 100000) :
    Calls Tryz.prog 171 #[.int .i64 x0, .int .i64 y0, .int .i64 x1, .int .i64 y1, .int .i64 x] w fun e w' => e = .returned (.int .i64 (linF x0 y0 x1 y1 x)) ∧ w = w' := by
  by_cases h1 : x ≤ x0
  · have e : linF x0 y0 x1 y1 x = y0 := by unfold linF; rw [if_pos (.inl h1)]
    rw [e]
    go_enter Tryz.func171, Tryz.ntmps171
    go_wp2
    go_ret
    exact ⟨rfl, rfl⟩
  by_cases h2 : x1 ≤ x0
  · have e : linF x0 y0 x1 y1 x = y0 := by unfold linF; rw [if_pos (.inr h2)]
    rw [e]
    go_enter Tryz.func171, Tryz.ntmps171
    go_wp2
    go_ret
    exact ⟨rfl, rfl⟩
  by_cases h3 : x1 ≤ x
  · have e : linF x0 y0 x1 y1 x = y1 := by unfold linF; rw [if_neg (by omega), if_pos h3]
    rw [e]
    go_enter Tryz.func171, Tryz.ntmps171
    go_wp2
    go_ret
    exact ⟨rfl, rfl⟩
  have e : linF x0 y0 x1 y1 x = y0 + divR ((y1 - y0) * (x - x0)) (x1 - x0) := by unfold linF; rw [if_neg (by omega), if_neg h3]
  have hp := lin_in (x := x) a0 a1 b0 b1 h1 h3
  have hd1 := divR_le (a := (y1 - y0) * (x - x0)) (b := x1 - x0) (c := 1000000000) (by omega) (by omega) (by omega)
  have hd2 := le_divR (a := (y1 - y0) * (x - x0)) (b := x1 - x0) (c := 1000000000) (by omega) (by omega) (by omega)
  have HC := Lib.hid (fun W => l01Div_any ((y1 - y0) * (x - x0)) (x1 - x0) W (by omega) (by omega) (by omega) (by omega))
  rw [e]
  clear e
  generalize divR ((y1 - y0) * (x - x0)) (x1 - x0) = d at *
  go_enter Tryz.func171, Tryz.ntmps171
  go_wp2_with (go_at_call 149; refine (HC.out _).mono ?_; rintro e w' ⟨rfl, rfl⟩)
  go_ret
  exact ⟨rfl, rfl⟩
theorem at2_pair {cv : List (List Int)} {k : Nat} {x y : Int} (h : cv.getD k [] = [x, y]) : at2 cv k 0 = x ∧ at2 cv k 1 = y := by
  unfold at2; rw [h]; exact ⟨rfl, rfl⟩
theorem pressF_zero {cv : List (List Int)} {q : Int} (h : Curved cv) (hq : q ≤ at2 cv 0 0) : pressF cv q = at2 cv 0 1 := by
  have h2 := h.two
  have hu : at2 cv 0 0 < at2 cv 1 0 := h.up 0 (by omega)
  unfold pressF
  rw [scanF_stop (by omega)]
  unfold linF
  rw [if_pos (.inl hq)]
theorem scanF_succ {cv : List (List Int)} {q : Int} {k : Nat} (hk : k + 1 < cv.length) (h : at2 cv k 0 < q) : scanF cv q (cv.length - 1 - k) k = scanF cv q (cv.length - 1 - (k + 1)) (k + 1) := by
  obtain ⟨n, hn⟩ : ∃ n, cv.length - 1 - k = n + 1 := ⟨cv.length - 2 - k, by omega⟩
  rw [hn, show cv.length - 1 - (k + 1) = n by omega]
  unfold scanF
  rw [if_pos h]
  cases n <;> rfl
theorem scanF_at {cv : List (List Int)} {q : Int} {k : Nat} (_ : k < cv.length) (h : k + 1 = cv.length ∨ ¬ at2 cv k 0 < q) : scanF cv q (cv.length - 1 - k) k = linF (at2 cv (k - 1) 0) (at2 cv (k - 1) 1) (at2 cv k 0) (at2 cv k 1) q := by
  rcases h with h | h
  · rw [show cv.length - 1 - k = 0 by omega]; rfl
  · exact scanF_stop h
set_option maxRecDepth 100000 in
set_option maxHeartbeats 1600000 in
theorem pressure_any (s : ByteArray) (a : Int) (A : Option Addr) (c : Nat) (cv : List (List Int)) (q : Int) (B : Nat) (w : World) (hI : Nest B w A cv) (hB : B ≤ w.heap.size) (hc : Curved cv) (hq : -100000 ≤ q ∧ q ≤ 100000) :
    Calls Tryz.prog 130 #[.agg #[.string s, .int .i64 a, .slice A cv.length c], .int .i64 q] w fun e w' => e = .returned (.int .i64 (pressF cv q)) ∧ Below w.heap.size w w' := by
  obtain ⟨R, hR⟩ : ∃ R, R = pressF cv q := ⟨_, rfl⟩
  rw [← hR]
  have HR : Hid (R = scanF cv q (cv.length - 1 - 1) 1) := Lib.hid (by rw [hR]; rfl)
  have h2 := hc.two
  have h8 := hc.eight
  have HCu := Lib.hid hc
  have be0 : Below w.heap.size w (w.alloc (.cells #[.string s, .int .i64 a, .slice A cv.length c] 74)) := by go_grown
  have J0 := Lib.hid ((hI.more hB).below be0)
  have b2 : ((w.alloc (.cells #[.string s, .int .i64 a, .slice A cv.length c] 74))).cell? ⟨w.heap.size, 2, none⟩ = some (.slice A cv.length c) := by go_simp
  clear hI hc hR
  go_enter Tryz.func130, Tryz.ntmps130
  go_wp2
  generalize (w.alloc (.cells #[.string s, .int .i64 a, .slice A cv.length c] 74)) = wb at *
  go_loopw [5] (fun ii wr => ∃ k : Nat, 1 ≤ k ∧ k < cv.length ∧ ii = .int .i64 k ∧ R = scanF cv q (cv.length - 1 - k) k ∧ wb = wr) (fun ii _ => cv.length - (intOf ii).toNat)
  case atStart => exact ⟨1, by omega, by omega, rfl, HR.out, rfl⟩
  case round =>
    obtain ⟨k, k1, hk, rfl, hr, rfl⟩ := hrel
    have HX := Lib.hid hr
    clear hr
    obtain ⟨x, y, hxy⟩ := pair_of (HCu.out.pair k hk)
    obtain ⟨hx, hy⟩ := at2_pair hxy
    obtain ⟨b, o, b1, o1, c1, rfl, -, -, d0, d1, d2⟩ := J0.out.pair hk hxy
    obtain ⟨p, hp⟩ : ∃ p, k = p + 1 := ⟨k - 1, by omega⟩
    obtain ⟨x', y', hxy'⟩ := pair_of (HCu.out.pair p (by omega))
    obtain ⟨hx', hy'⟩ := at2_pair hxy'
    obtain ⟨b', o', b2', o2, c2, hbo, -, -, e0, e1, e2⟩ := J0.out.pair (k := p) (by omega) hxy'
    cases hbo
    have hfl := HCu.out.flow k hk
    have hpu := HCu.out.push k hk
    have hfl' := HCu.out.flow p (by omega)
    have hpu' := HCu.out.push p (by omega)
    rw [hx] at hfl
    rw [hy] at hpu
    rw [hx'] at hfl'
    rw [hy'] at hpu'
    have i0 : (0 : Int) ≤ (k : Int) := by omega
    have i1 : (k : Int) < cv.length := by omega
    have hww : IntKind.i64.wrap ((cv.length : Int) - 1) = (cv.length : Int) - 1 := IntWalk.i64_in _ (by omega)
    have HEND : Hid ((k + 1 = cv.length ∨ ¬ x < q) → R = linF x' y' x y q) := Lib.hid (fun h => by
      rw [HX.out, scanF_at hk (by rw [hx]; exact h), show k - 1 = p by omega, hx, hy, hx', hy'])
    have HGO : Hid (k + 1 < cv.length → x < q → R = scanF cv q (cv.length - 1 - (k + 1)) (k + 1)) := Lib.hid (fun h h' => by
      rw [HX.out, scanF_succ h (by rw [hx]; exact h')])
    have HB := Lib.hid (fun W => blend_any x' y' x y q W hfl' hfl hpu' hpu hq)
    have w0 : (0 : Int) ≤ (p : Int) := by omega
    have w1 : (p : Int) < cv.length := by omega
    have hw : IntKind.i64.wrap ((k : Int) - 1) = (p : Int) := by rw [IntWalk.i64_in _ (by omega)]; omega
    clear hxy hxy' hx hy hx' hy' hp
    by_cases hend : k + 1 = cv.length ∨ ¬ x < q
    · have HE := Lib.hid (HEND.out hend)
      clear HEND HGO HX
      generalize linF x' y' x y q = z at *
      rcases hend with hend | hend
      · have hl : decide ((k : Int) < (cv.length : Int) - 1) = false := decide_eq_false (by omega)
        go_wp2
        go_big_quiet (fail)
        go_wp2
        go_big_quiet ((go_at_call 164; first | (with_reducible exact quiet_d (HB.out _)) | (with_reducible exact quiet_d2 (HB.out _))))
        go_wp2
        clear hw
        go_ret
        exact ⟨ret_int (by rw [HE.out]), by first | exact below_drewN be0 _ | exact below_drewN (below_drewN be0 _) _⟩
      · by_cases hl' : k + 1 = cv.length
        · have hl : decide ((k : Int) < (cv.length : Int) - 1) = false := decide_eq_false (by omega)
          go_wp2
          go_big_quiet (fail)
          go_wp2
          go_big_quiet ((go_at_call 164; first | (with_reducible exact quiet_d (HB.out _)) | (with_reducible exact quiet_d2 (HB.out _))))
          go_wp2
          clear hw
          go_ret
          exact ⟨ret_int (by rw [HE.out]), by first | exact below_drewN be0 _ | exact below_drewN (below_drewN be0 _) _⟩
        · have hl : decide ((k : Int) < (cv.length : Int) - 1) = true := decide_eq_true (by omega)
          go_wp2
          go_big_quiet (fail)
          go_wp2
          go_big_quiet ((go_at_call 164; first | (with_reducible exact quiet_d (HB.out _)) | (with_reducible exact quiet_d2 (HB.out _))))
          go_wp2
          clear hw
          go_ret
          exact ⟨ret_int (by rw [HE.out]), by first | exact below_drewN be0 _ | exact below_drewN (below_drewN be0 _) _⟩
    · have h5 : x < q := by omega
      have h6 : k + 1 < cv.length := by omega
      have HG := Lib.hid (HGO.out h6 h5)
      clear HEND HGO HX hw
      go_wp2
      go_roundw
      case rel => exact ⟨k + 1, by omega, by omega, by go_num, HG.out, by first | trivial | rfl⟩
      case measure => simp [intOf]; omega
set_option maxRecDepth 100000 in
set_option maxHeartbeats 1600000 in
theorem l06Pressure_any (bf of : Nat) (A : Option Addr) (c : Nat) (cv : List (List Int)) (q : Int) (B : Nat) (w : World) (hI : Nest B w A cv) (c2 : w.cell? ⟨bf, of + 2, none⟩ = some (.slice A cv.length c)) (hc : Curved cv) (hq : -100000 ≤ q ∧ q ≤ 100000) :
    Calls Tryz.prog 148 #[.pointer (some ⟨bf, of, none⟩), .int .i64 q] w fun e w' => e = .returned (.int .i64 (pressF cv q)) ∧ ∃ n, w.drewN n = w' := by
  obtain ⟨R, hR⟩ : ∃ R, R = pressF cv q := ⟨_, rfl⟩
  rw [← hR]
  have HR : Hid (R = scanF cv q (cv.length - 1 - 1) 1) := Lib.hid (by rw [hR]; rfl)
  have h2 := hc.two
  have h8 := hc.eight
  have HCu := Lib.hid hc
  have J0 := Lib.hid hI
  obtain ⟨x, y, hxy⟩ := pair_of (hc.pair 0 (by omega))
  obtain ⟨hx, hy⟩ := at2_pair hxy
  obtain ⟨b, o, b1, o1, c1, rfl, -, -, d0, d1, d2⟩ := J0.out.pair (k := 0) (by omega) hxy
  have HZ : Hid (q ≤ x → R = y) := Lib.hid (fun h => by rw [hR, pressF_zero HCu.out (by rw [hx]; exact h), hy])
  have hfl := hc.flow 0 (by omega)
  rw [hx] at hfl
  have d0 : w.cell? ⟨b, o, none⟩ = some (.slice (some ⟨b1, o1, none⟩) 2 c1) := d0
  have hl0 : (0 : Int) < cv.length := by omega
  have HU : Hid (x = at2 cv 0 0) := Lib.hid hx.symm
  clear hI hc hR hxy hx hy
  by_cases hq0 : q ≤ x
  · have HE := Lib.hid (HZ.out hq0)
    clear HZ
    go_enter Tryz.func148, Tryz.ntmps148
    go_wp2
    go_ret
    exact ⟨ret_int (by rw [HE.out]), 0, rfl⟩
  clear HZ
  go_enter Tryz.func148, Tryz.ntmps148
  go_wp2
  go_loopw [6] (fun ii wr => ∃ k : Nat, 1 ≤ k ∧ k ≤ cv.length ∧ ii = .int .i64 k ∧ at2 cv (k - 1) 0 < q ∧ R = (if k = cv.length then at2 cv (k - 1) 1 else scanF cv q (cv.length - 1 - k) k) ∧ w = wr) (fun ii _ => cv.length - (intOf ii).toNat)
  case atStart => exact ⟨1, by omega, by omega, rfl, by have := HU.out; show at2 cv 0 0 < q; omega, by rw [if_neg (by omega)]; exact HR.out, rfl⟩
  case round =>
    obtain ⟨k, k1, hk, rfl, hlow, hr, rfl⟩ := hrel
    have HX := Lib.hid hr
    have HLo := Lib.hid hlow
    clear hr hlow
    obtain ⟨p, hp⟩ : ∃ p, k = p + 1 := ⟨k - 1, by omega⟩
    obtain ⟨x', y', hxy'⟩ := pair_of (HCu.out.pair p (by omega))
    obtain ⟨hx', hy'⟩ := at2_pair hxy'
    obtain ⟨b', o', b2', o2, c2', hbo, -, -, e0, e1, e2⟩ := J0.out.pair (k := p) (by omega) hxy'
    cases hbo
    have hfl' := HCu.out.flow p (by omega)
    have hpu' := HCu.out.push p (by omega)
    rw [hx'] at hfl'
    rw [hy'] at hpu'
    have w0 : (0 : Int) ≤ (p : Int) := by omega
    have w1 : (p : Int) < cv.length := by omega
    by_cases hlt : k < cv.length
    · obtain ⟨x2, y2, hxy⟩ := pair_of (HCu.out.pair k hlt)
      obtain ⟨hx, hy⟩ := at2_pair hxy
      obtain ⟨b', o', b3, o3, c3, hbo, -, -, f0, f1, f2⟩ := J0.out.pair hlt hxy
      cases hbo
      have hfl := HCu.out.flow k hlt
      have hpu := HCu.out.push k hlt
      rw [hx] at hfl
      rw [hy] at hpu
      have i0 : (0 : Int) ≤ (k : Int) := by omega
      have i1 : (k : Int) < cv.length := by omega
      have HEND : Hid (q ≤ x2 → R = linF x' y' x2 y2 q) := Lib.hid (fun h => by
        rw [HX.out, if_neg (by omega), scanF_at hlt (.inr (by rw [hx]; omega)), show k - 1 = p by omega, hx, hy, hx', hy'])
      have HGO : Hid (x2 < q → R = (if k + 1 = cv.length then at2 cv (k + 1 - 1) 1 else scanF cv q (cv.length - 1 - (k + 1)) (k + 1))) := Lib.hid (fun h => by
        rw [HX.out, if_neg (by omega)]
        by_cases e : k + 1 = cv.length
        · rw [if_pos e, scanF_at hlt (.inl e)]
          unfold linF
          have h9 := HLo.out
          rw [show k - 1 = p by omega] at h9
          have hup := HCu.out.up p (by omega)
          rw [← hp] at hup
          rw [show k - 1 = p by omega, if_neg (by omega), if_pos (by rw [hx]; omega)]
          rfl
        · rw [if_neg e, scanF_succ (by omega) (by rw [hx]; exact h)])
      have HA : Hid (at2 cv (k + 1 - 1) 0 = x2) := Lib.hid hx
      have HB := Lib.hid (fun W => l01Line_any x' y' x2 y2 q W hfl' hfl hpu' hpu hq)
      have hw : IntKind.i64.wrap ((k : Int) - 1) = (p : Int) := by rw [IntWalk.i64_in _ (by omega)]; omega
      clear hxy hxy' hx hy hx' hy' HX hp
      by_cases hend : q ≤ x2
      · have HE := Lib.hid (HEND.out hend)
        clear HEND HGO
        generalize linF x' y' x2 y2 q = z at *
        go_wp2
        go_big_quiet ((go_at_call 171; first | (with_reducible exact quiet_s (HB.out _)) | (with_reducible exact quiet_s2 (HB.out _))))
        go_wp2
        clear hw
        go_ret
        exact ⟨ret_int (by rw [HE.out]), _, rfl⟩
      · have HG := Lib.hid (HGO.out (by omega))
        clear HEND HGO
        go_wp2
        clear hw
        go_roundw
        case rel => exact ⟨k + 1, by omega, by omega, by go_num, by rw [HA.out]; omega, HG.out, by first | trivial | rfl⟩
        case measure => simp [intOf]; omega
    · obtain rfl : k = cv.length := by omega
      have HE : Hid (R = y') := Lib.hid (by rw [HX.out, if_pos rfl, show cv.length - 1 = p by omega, hy'])
      have hw : IntKind.i64.wrap ((cv.length : Int) - 1) = (p : Int) := by rw [IntWalk.i64_in _ (by omega)]; omega
      clear hxy' hx' hy' HX hp
      go_wp2
      clear hw
      go_ret
      exact ⟨ret_int (by rw [HE.out]), 0, rfl⟩
end Go.Proofs.YtejkoicgbgoiaaaGreat

/- A copy of a list of numbers by the reference's own function. Conditions: the lengths that each theorem names. -/
namespace Go.Proofs.YtejkoicgbgoiaaaGreat
open Go.RowKit
open Pl
set_option maxRecDepth 100000 in
theorem l00Own_any (ad : Addr) (c : Nat) (xs : List Int) (B : Nat) (w : World) (hn : xs.length ≤ 1048576) (hI : Ints B w (some ad) xs) :
    Calls Tryz.prog 88 #[.slice (some ad) xs.length c] w fun e w' => ∃ v, e = .returned v ∧ Own w.heap.size w' v xs ∧ Below w.heap.size w w' := by
  obtain ⟨i0, hi, hz0, hz1, hz2⟩ := info_parts infoI
  have J : Hid (∀ j u, (vals xs)[j]? = some u → w.cell? (ad.add j) = some u) := Lib.hid (by
    intro j u hj
    obtain ⟨hj', _⟩ := List.getElem?_eq_some_iff.1 hj
    rw [vals_length] at hj'
    rw [vals_get hj'] at hj
    injection hj with hj
    subst hj
    obtain ⟨ad', e, _, hc⟩ := hI.at_ hj'
    injection e with e
    subst e
    exact hc)
  clear hI
  have H1 : Hid (∀ u ∈ vals xs, u.oneCell' = true) := Lib.hid (by
    intro u hu
    unfold vals at hu
    obtain ⟨x, _, rfl⟩ := List.mem_map.1 hu
    rfl)
  have HF := Lib.hid (And.intro hi (And.intro hz0 (And.intro hz1 hz2)))
  clear hi hz0 hz1 hz2
  go_enter Tryz.func88, Tryz.ntmps88
  go_wp2_with (at_builtin; refine wpList_append_own _ rfl _ _ 25 rfl w.heap.size 2 i0 (.int .i64 0) 1 8 Tryz.underlying25 HF.out.1 HF.out.2.1 HF.out.2.2.1 HF.out.2.2.2 rfl (by decide) _ _ _ rfl (Own.empty (Nat.le_refl _)) ad xs.length c (vals xs) rfl ?qc1 ?qc2 ?qc3 ?qc4 ?qc5 ?qc6 ?_)
  case qc1 => rw [vals_length, Nat.mul_one]
  case qc2 => intro j u hj; exact Lib.cell?_alloc_some _ (J.out j u hj)
  case qc3 => exact H1.out
  case qc4 => exact le_max (by simp; omega)
  case qc5 => simp; omega
  case qc6 => simp
  intro v' w1 hown hgrow hnil
  go_wp2
  go_ret
  refine ⟨v', rfl, ?_, ?_⟩
  · unfold Own; simpa [vals] using hown
  · exact ((Below.refl _ w).alloc (Nat.le_refl _) _).grown hgrow (by simp) (by intro k hk; simp [Value.ownBlock] at hk; omega)
end Go.Proofs.YtejkoicgbgoiaaaGreat
