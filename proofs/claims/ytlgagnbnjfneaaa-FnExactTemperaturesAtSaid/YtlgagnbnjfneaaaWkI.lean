/- Walks in a mine: the program's rounds as the plain ones. Conditions: the facts on memory and on lengths that each theorem names. -/
import Derived.Test.YtlgagnbnjfneaaaWkS
import Derived.Test.YtlgagnbnjfneaaaRep
import Derived.Test.YtlgagnbnjfneaaaMineW
import Derived.Deep.RegionHeld3
namespace Go.Proofs.Ytlgagnbnjfneaaa
open Go.RowKit
open Pl
theorem row_later {base n s : Nat} {w w' : World} {T : TypeId} {v : Value} {ys : List Value} (h : w.ownsRow base T s v n ys) (hb : Below w.heap.size w w') : w'.ownsRow base T s v n ys :=
  World.ownsRow.kept h (Below.grownBy hb none) (by cases v.ownBlock <;> simp)
theorem wk_later {base g N c : Nat} {w0 w w' : World} {D : List Int} (h : Below base w0 w ∧ w.ownsRow base 2 1 (.slice (some ⟨g, 0, none⟩) N c) N (vals D)) (hB : base ≤ w.heap.size) (hb : Below w.heap.size w w') :
    Below base w0 w' ∧ w'.ownsRow base 2 1 (.slice (some ⟨g, 0, none⟩) N c) N (vals D) := ⟨h.1.trans (hb.mono hB), row_later h.2 hb⟩
theorem walkTime_w (s : ByteArray) (f t l c r k v : Int) (w : World) (h1 : 1 ≤ l) (h2 : l ≤ 10000) (h3 : 10 ≤ v) (h4 : v ≤ 300) :
    Calls Try.prog 148 #[.agg #[.string s, .int .i64 f, .int .i64 t, .int .i64 l, .int .i64 c, .int .i64 r, .int .i64 k], .int .i64 v] w fun e w' => e = .returned (.int .i64 (divU (100 * l) v)) ∧ Below w.heap.size w w' := by
  go_enter Try.func148, Try.ntmps148
  go_wp2_with (go_at_call 152; refine (divUp_any _ _ _ (by omega) (by omega) (by omega) (by omega)).mono ?_; rintro e w' ⟨rfl, rfl⟩)
  go_ret
  exact ⟨rfl, by go_grown⟩
theorem mayBe_w (N : Nat) (A : Option Addr) (cp n ca : Nat) (AR : Option Addr) (j : Nat) (s : Int) (B : Nat) (w : World) (hj : j < N) (hI : Ints B w AR (List.replicate N (-1))) :
    Calls Try.prog 147 #[.agg #[.int .i64 (N : Int), .slice A n cp, .slice AR N ca, .int .i64 (-1)], .int .i64 (j : Int), .int .i64 s] w fun e w' => e = .returned (.bool true) ∧ Below w.heap.size w w' := by
  obtain ⟨ad, rfl, _, hc⟩ := hI.at_ (k := j) (by simp; exact hj)
  simp only [List.getElem_replicate] at hc
  have hj0 : (0 : Int) ≤ (j : Int) := by omega
  have hj1 : (j : Int) < N := by omega
  have hc2 : ∀ o, (w.alloc o).cell? (ad.add j) = some (.int .i64 (-1)) := fun o => Lib.cell?_alloc_some o hc
  clear hI hc
  go_enter Try.func147, Try.ntmps147
  go_wp2
  go_ret
  exact ⟨rfl, by go_grown⟩
/-- An airway in a box of its own. -/
def AirAt (b : Nat) (z : Aw) (w : World) : Prop := ∀ j u, (encA z)[j]? = some u → w.cell? ⟨b, j, none⟩ = some u
theorem AirAt.later {b : Nat} {z : Aw} {w w' : World} (h : AirAt b z w) (hb : Below w.heap.size w w') : AirAt b z w' := fun j u hu => cell_later hb (h j u hu)
theorem AirAt.set {b g i : Nat} {z : Aw} {w : World} {v : Value} (h : AirAt b z w) (hne : g ≠ b) : AirAt b z (w.setCell ⟨g, i, none⟩ v) := fun j u hu =>
  (World.cell?_setCell_other _ _ _ _ (fun e => hne (by injection e))).trans (h j u hu)
theorem AirAt.new (w : World) (z : Aw) (t : TypeId) : AirAt w.heap.size z (w.alloc (.cells #[.string z.id, .int .i64 z.f, .int .i64 z.t, .int .i64 z.l, .int .i64 z.c, .int .i64 z.r, .int .i64 z.k] t)) := by
  intro j u hu
  rw [World.cell?_alloc_at _ _ _ _ rfl]
  have hj : j < 7 := (List.getElem?_eq_some_iff.1 hu).1
  match j, hj with
  | 0, _ => exact hu
  | 1, _ => exact hu
  | 2, _ => exact hu
  | 3, _ => exact hu
  | 4, _ => exact hu
  | 5, _ => exact hu
  | 6, _ => exact hu
/-- The airway's two ways, one behind the other. -/
def wayL (F T : Nat) (g : Int) (p : Nat) (D : List Int) : List Int := match p with | 0 => D | 1 => wrl F T g D | _ => wrl T F g (wrl F T g D)
def wayM (F T : Nat) (g : Int) (p : Nat) (D : List Int) (m : Bool) : Bool := match p with | 0 => m | 1 => (m || decide (wrC F T g D)) | _ => (m || decide (wrC F T g D)) || decide (wrC T F g (wrl F T g D))
theorem way0 {F T : Nat} {g : Int} {D : List Int} {m : Bool} : (wrC F T g D → wayL F T g 1 D = D.set T (D.getD F 0 + g) ∧ wayM F T g 1 D m = true) ∧ (¬ wrC F T g D → wayL F T g 1 D = D ∧ wayM F T g 1 D m = m) :=
  ⟨fun h => ⟨wrl_yes h, by show (m || decide (wrC F T g D)) = true; rw [decide_eq_true h]; simp⟩, fun h => ⟨wrl_no h, by show (m || decide (wrC F T g D)) = m; rw [decide_eq_false h]; simp⟩⟩
theorem way1 {F T : Nat} {g : Int} {D D1 : List Int} {m m1 : Bool} (hD : wayL F T g 1 D = D1) (hM : wayM F T g 1 D m = m1) : (wrC T F g D1 → wayL F T g 2 D = D1.set F (D1.getD T 0 + g) ∧ wayM F T g 2 D m = true) ∧ (¬ wrC T F g D1 → wayL F T g 2 D = D1 ∧ wayM F T g 2 D m = m1) := by
  have e1 : wayL F T g 2 D = wrl T F g D1 := by rw [← hD]; rfl
  have e2 : wayM F T g 2 D m = (m1 || decide (wrC T F g D1)) := by rw [← hD, ← hM]; rfl
  rw [e1, e2]
  exact ⟨fun h => ⟨wrl_yes h, by rw [decide_eq_true h]; simp⟩, fun h => ⟨wrl_no h, by rw [decide_eq_false h]; simp⟩⟩
theorem way_len (F T : Nat) (g : Int) (p : Nat) (D : List Int) : (wayL F T g p D).length = D.length := by
  unfold wayL; split <;> simp [wrl_len]
set_option maxRecDepth 100000 in
set_option maxHeartbeats 12800000 in
theorem times_any (N : Nat) (A : Option Addr) (cp : Nat) (xs : List Aw) (AR : Option Addr) (ca : Nat) (a : Nat) (v : Int) (w : World) (hI : Recs encA 7 w.heap.size w A xs) (hm : mineB (N : Int) xs = true) (ha : a < N) (hv1 : 10 ≤ v) (hv2 : v ≤ 300) (hR : Ints w.heap.size w AR (List.replicate N (-1))) :
    Calls Try.prog 100 #[.agg #[.int .i64 (N : Int), .slice A xs.length cp, .slice AR N ca, .int .i64 (-1)], .agg #[.string ByteArray.empty, .int .i64 (a : Int), .int .i64 v], .int .i64 0] w fun e w' => ∃ u, e = .returned u ∧ Own w.heap.size w' u (walkL N xs a v) ∧ Below w.heap.size w w' := by
  obtain ⟨⟨n1, n2⟩, nx, _⟩ := mineB_bd hm
  obtain ⟨hE, hft⟩ := mineB_ends hm
  rw [Int.toNat_natCast] at hE
  obtain ⟨hWG, hlen⟩ := gw_bd hm hv1 hv2
  have HE := Lib.hid hE
  have HFT := Lib.hid hft
  have HNE := Lib.hid (fun k (hk : k < xs.length) => awOk_ne hm hk)
  have HWG := Lib.hid hWG
  have HLN := Lib.hid hlen
  have J0 := Lib.hid hI
  have HAR := Lib.hid hR
  have hN1 : 1 ≤ N := by omega
  have hN2 : N ≤ 16 := by omega
  have hxn : xs.length ≤ 24 := by omega
  have be0 : Below w.heap.size w (((w.alloc (.cells #[.int .i64 (N : Int), .slice A xs.length cp, .slice AR N ca, .int .i64 (-1)] 127)).alloc (.cells #[.string ByteArray.empty, .int .i64 (a : Int), .int .i64 v] 130)).alloc (.cells #[.int .i64 (-1)] 2)) := by go_grown
  have e0_0 : ((((w.alloc (.cells #[.int .i64 (N : Int), .slice A xs.length cp, .slice AR N ca, .int .i64 (-1)] 127)).alloc (.cells #[.string ByteArray.empty, .int .i64 (a : Int), .int .i64 v] 130)).alloc (.cells #[.int .i64 (-1)] 2))).cell? ⟨w.heap.size, 0, none⟩ = some (.int .i64 (N : Int)) := by go_simp
  have e1_0 : ((((w.alloc (.cells #[.int .i64 (N : Int), .slice A xs.length cp, .slice AR N ca, .int .i64 (-1)] 127)).alloc (.cells #[.string ByteArray.empty, .int .i64 (a : Int), .int .i64 v] 130)).alloc (.cells #[.int .i64 (-1)] 2))).cell? ⟨w.heap.size, 1, none⟩ = some (.slice A xs.length cp) := by go_simp
  have e2_0 : ((((w.alloc (.cells #[.int .i64 (N : Int), .slice A xs.length cp, .slice AR N ca, .int .i64 (-1)] 127)).alloc (.cells #[.string ByteArray.empty, .int .i64 (a : Int), .int .i64 v] 130)).alloc (.cells #[.int .i64 (-1)] 2))).cell? ⟨w.heap.size, 2, none⟩ = some (.slice AR N ca) := by go_simp
  have e3_0 : ((((w.alloc (.cells #[.int .i64 (N : Int), .slice A xs.length cp, .slice AR N ca, .int .i64 (-1)] 127)).alloc (.cells #[.string ByteArray.empty, .int .i64 (a : Int), .int .i64 v] 130)).alloc (.cells #[.int .i64 (-1)] 2))).cell? ⟨w.heap.size, 3, none⟩ = some (.int .i64 (-1)) := by go_simp
  have c1_0 : ((((w.alloc (.cells #[.int .i64 (N : Int), .slice A xs.length cp, .slice AR N ca, .int .i64 (-1)] 127)).alloc (.cells #[.string ByteArray.empty, .int .i64 (a : Int), .int .i64 v] 130)).alloc (.cells #[.int .i64 (-1)] 2))).cell? ⟨w.heap.size + 1, 1, none⟩ = some (.int .i64 (a : Int)) := by go_simp
  have cr_0 : ((((w.alloc (.cells #[.int .i64 (N : Int), .slice A xs.length cp, .slice AR N ca, .int .i64 (-1)] 127)).alloc (.cells #[.string ByteArray.empty, .int .i64 (a : Int), .int .i64 v] 130)).alloc (.cells #[.int .i64 (-1)] 2))).cell? ⟨w.heap.size + 1 + 1, 0, none⟩ = some (.int .i64 (-1)) := by go_simp
  have c2_0 : ((((w.alloc (.cells #[.int .i64 (N : Int), .slice A xs.length cp, .slice AR N ca, .int .i64 (-1)] 127)).alloc (.cells #[.string ByteArray.empty, .int .i64 (a : Int), .int .i64 v] 130)).alloc (.cells #[.int .i64 (-1)] 2))).cell? ⟨w.heap.size + 1, 2, none⟩ = some (.int .i64 v) := by go_simp
  clear hI hm hE hft hWG hlen n1 n2 nx hR
  go_enter Try.func100, Try.ntmps100
  go_wp2_with fail
  generalize (((w.alloc (.cells #[.int .i64 (N : Int), .slice A xs.length cp, .slice AR N ca, .int .i64 (-1)] 127)).alloc (.cells #[.string ByteArray.empty, .int .i64 (a : Int), .int .i64 v] 130)).alloc (.cells #[.int .i64 (-1)] 2)) = w1 at *
  have sz1 : w.heap.size + 1 + 1 < w1.heap.size := World.block_lt_of_cell? _ _ cr_0
  refine (Repeat_any N (-1) (w.heap.size + 1 + 1) w1 hN1 hN2 cr_0).mono ?_
  rintro e w2 ⟨u, rfl, ho, hb2⟩
  have be2 := be0.trans (hb2.mono be0.size)
  have e0_2 := cell_later hb2 e0_0
  have e1_2 := cell_later hb2 e1_0
  have e2_2 := cell_later hb2 e2_0
  have e3_2 := cell_later hb2 e3_0
  have c1_2 := cell_later hb2 c1_0
  have c2_2 := cell_later hb2 c2_0
  obtain ⟨AV, cv, hv, -, -⟩ := ho.slice
  rw [List.length_replicate] at hv
  subst hv
  obtain ⟨g, rfl, hg1, hrow⟩ := ho.row (n := N) (by omega) (by simp)
  have hgw := (World.ownsRow.lt hrow _ rfl).2
  have HO := Lib.hid hrow
  have M := Lib.hid (And.intro e0_0 (And.intro e1_0 (And.intro e2_0 (And.intro e3_0 (And.intro c1_0 c2_0)))))
  clear ho hrow cr_0 e0_0 e1_0 e2_0 e3_0 c1_0 c2_0
  go_wp2_with fail
  refine (mayBe_w N A cp xs.length ca AR a 0 w.heap.size w2 ha (HAR.out.below be2)).mono ?_
  rintro e w3 ⟨rfl, hb3⟩
  have be3 := be2.trans (hb3.mono be2.size)
  have e0_3 := cell_later hb3 e0_2
  have e1_3 := cell_later hb3 e1_2
  have e2_3 := cell_later hb3 e2_2
  have e3_3 := cell_later hb3 e3_2
  have c1_3 := cell_later hb3 c1_2
  have c2_3 := cell_later hb3 c2_2
  have hB3 := hb2.trans (hb3.mono hb2.size)
  have HO3 := Lib.hid (row_later HO.out hb3)
  have hco : w3.cell? ⟨g, a, none⟩ = some (.int .i64 (-1)) := by
    rw [World.ownsRow.cellAt HO3.out a (by omega), vals_get (by simp; omega)]
    simp
  have hfz : w3.frozen? ⟨g, a, none⟩ = false := World.ownsRow.frozenAt HO3.out a
  have ha0 : (0 : Int) ≤ (a : Int) := by omega
  have ha1 : (a : Int) < N := by omega
  have HST : Hid ((List.replicate N (-1 : Int)).set a 0 = wstart N a) := Lib.hid rfl
  have HSt : Hid (Below w1.heap.size w1 (w3.setCell ⟨g, a, none⟩ (.int .i64 0)) ∧ (w3.setCell ⟨g, a, none⟩ (.int .i64 0)).ownsRow w1.heap.size 2 1 (.slice (some ⟨g, 0, none⟩) N cv) N (vals (wstart N a))) := Lib.hid (by
    have h := fit_set ⟨hB3, HO3.out⟩ hg1 a 0
    rw [HST.out] at h
    exact h)
  clear e0_2 e1_2 e2_2 e3_2 c1_2 c2_2 HO
  go_wp2_with fail
  -- ROUNDS
  go_loopg [8] (N + 2) (fun kx mo wr => ∃ (m : Bool) (d : List Int), mo = .bool m ∧ ((m = true ∧ ∃ q, q + 1 ≤ N ∧ d = wrs xs (gw v xs) q (wstart N a) ∧ N - q ≤ kx) ∨ (m = false ∧ d = walkL N xs a v)) ∧ Below w1.heap.size w1 wr ∧ wr.ownsRow w1.heap.size 2 1 (.slice (some ⟨g, 0, none⟩) N cv) N (vals d))
  case atStart => exact ⟨true, wstart N a, rfl, .inl ⟨rfl, 0, by omega, rfl, by omega⟩, HSt.out.1, HSt.out.2⟩
  case round =>
    obtain ⟨m, d, rfl, hor, hb, hown⟩ := hrel
    rcases hor with ⟨rfl, q, hq, hd, hkx⟩ | ⟨rfl, hd⟩
    rotate_left
    · have HOO : Hid (Own w.heap.size wr (.slice (some ⟨g, 0, none⟩) N cv) (walkL N xs a v)) := Lib.hid (by
        rw [hd] at hown
        exact Own.of_row hown (by unfold walkL; rw [wrs_len, wstart_len]) (by omega))
      clear hd hown
      go_wp2
      go_ret
      exact ⟨_, rfl, HOO.out, be0.trans (hb.mono be0.size)⟩
    · have hdl : d.length = N := by rw [hd, wrs_len, wstart_len]
      have hdb : WBd (48 * q) d := by
        rw [hd]
        have hx := (wstart_bd N a).wrs HE.out HWG.out (wstart_len N a) q
        have : 2 * xs.length * q ≤ 48 * q := Nat.mul_le_mul_right q (by omega)
        exact hx.more (by omega)
      have HD := Lib.hid hdl
      have HDB := Lib.hid hdb
      have HDD := Lib.hid hd
      have HO := Lib.hid hown
      clear hdl hdb hd hown
      obtain ⟨wo, hwo⟩ : ∃ wo : World, wo = wr := ⟨_, rfl⟩
      subst hwo
      have e1_o := cell_later hb M.out.2.1
      go_wp2
      go_loopw [8, 37] (fun mo ii wi => ∃ i : Nat, i ≤ xs.length ∧ ii = .int .i64 i ∧ mo = .bool (wmv xs (gw v xs) i d) ∧ Below w1.heap.size w1 wi ∧ wi.ownsRow w1.heap.size 2 1 (.slice (some ⟨g, 0, none⟩) N cv) N (vals (wrnd xs (gw v xs) i d))) (fun _ ii _ => xs.length - (intOf ii).toNat)
      case atStart => exact ⟨0, Nat.zero_le _, rfl, rfl, hb, HO.out⟩
      case round =>
        obtain ⟨i, hi, rfl, rfl, hbi, howni⟩ := hrel
        by_cases hil : i < xs.length
        · have hbw : Below w.heap.size w wr := be0.trans (hbi.mono be0.size)
          obtain ⟨D, hDe⟩ : ∃ D, wrnd xs (gw v xs) i d = D := ⟨_, rfl⟩
          obtain ⟨m, hMe⟩ : ∃ m, wmv xs (gw v xs) i d = m := ⟨_, rfl⟩
          have hDl : D.length = N := by rw [← hDe]; exact (wrnd_len _ _).trans HD.out
          obtain ⟨hE1, hE2⟩ := HE.out i hil
          have hne := HNE.out i hil
          obtain ⟨g1, g2⟩ := HWG.out i hil
          obtain ⟨l1, l2⟩ := HLN.out i hil
          have hbD : WBd (48 * q + 2 * i) D := by rw [← hDe]; exact HDB.out.wrnd HE.out HWG.out HD.out i (by omega)
          obtain ⟨⟨s, f, t, l, c, rr, k⟩, hx⟩ : ∃ x, xs.getD i aNone = x := ⟨_, rfl⟩
          obtain ⟨b, o, hA, hab, c0, c1, c2, c3, c4, c5, c6⟩ := (J0.out.below hbw).cells7 hil hx
          cases hA
          obtain ⟨hf1, hf2⟩ := HFT.out i hil
          have hgl : gw v xs i = divU (100 * l) v := by unfold gw; rw [hx]
          rw [hx] at hf1 hf2 l1 l2
          have l1 : 1 ≤ l := l1
          have l2 : l ≤ 10000 := l2
          have hf1 : f = (aF xs i : Int) := hf1
          have hf2 : t = (aT xs i : Int) := hf2
          subst hf1 hf2
          rw [hDe] at howni
          rw [hgl] at g1 g2
          have hg0 : g < wr.heap.size := (World.ownsRow.lt howni _ rfl).2
          have HW := Lib.hid (fun W => walkTime_w s (aF xs i : Int) (aT xs i : Int) l c rr k v W l1 l2 hv1 hv2)
          have HL : Hid (wrnd xs (gw v xs) (i + 1) d = wayL (aF xs i) (aT xs i) (divU (100 * l) v) 2 D) := Lib.hid (by rw [← hgl, ← hDe]; rfl)
          have HMM : Hid (wmv xs (gw v xs) (i + 1) d = wayM (aF xs i) (aT xs i) (divU (100 * l) v) 2 D m) := Lib.hid (by rw [← hgl, ← hDe, ← hMe]; rfl)
          have HBD := Lib.hid hbD
          have HDL := Lib.hid hDl
          have HOI := Lib.hid howni
          have hi0 : (0 : Int) ≤ (i : Int) := by omega
          have hi1 : (i : Int) < xs.length := by omega
          have hi2 : ((i : Int) != -1) = true := by rw [bne_iff_ne]; omega
          have hF0 : (0 : Int) ≤ (aF xs i : Int) := by omega
          have hF1 : (aF xs i : Int) < N := by omega
          have hT0 : (0 : Int) ≤ (aT xs i : Int) := by omega
          have hT1 : (aT xs i : Int) < N := by omega
          have e1_w := cell_later hbi M.out.2.1
          rw [hMe]
          clear howni hDl hbD hx hgl hDe hMe hbw
          generalize divU (100 * l) v = gg at *
          generalize aF xs i = F at *
          generalize aT xs i = T at *
          obtain ⟨wm, hwm⟩ : ∃ wm : World, wm = wr := ⟨_, rfl⟩
          subst hwm
          have HA0 : Hid (AirAt wm.heap.size ⟨s, (F : Int), (T : Int), l, c, rr, k⟩ (wm.alloc (.cells #[.string s, .int .i64 (F : Int), .int .i64 (T : Int), .int .i64 l, .int .i64 c, .int .i64 rr, .int .i64 k] 92))) := Lib.hid (AirAt.new _ _ _)
          have hx0 : ∀ w : World, (Instr.index 166 (.agg #[.int .i64 (F : Int), .int .i64 (T : Int), .int .i64 (T : Int), .int .i64 (F : Int)]) (.int .i64 0)).run Try.prog w = .ok (.agg #[.int .i64 (F : Int), .int .i64 (T : Int)]) w := fun w => by kernel_rfl
          have hx1 : ∀ w : World, (Instr.index 166 (.agg #[.int .i64 (F : Int), .int .i64 (T : Int), .int .i64 (T : Int), .int .i64 (F : Int)]) (.int .i64 1)).run Try.prog w = .ok (.agg #[.int .i64 (T : Int), .int .i64 (F : Int)]) w := fun w => by kernel_rfl
          have HI0 := Lib.hid (wk_later ⟨hbi, HOI.out⟩ hbi.size ((Below.refl wm.heap.size wm).alloc (Nat.le_refl _) (.cells #[.string s, .int .i64 (F : Int), .int .i64 (T : Int), .int .i64 l, .int .i64 c, .int .i64 rr, .int .i64 k] 92)))
          go_wp2
          go_loopw [8, 53] (fun mo pp wp => ∃ p : Nat, p ≤ 2 ∧ pp = .int .i64 p ∧ mo = .bool (wayM F T gg p D m) ∧ Below w1.heap.size w1 wp ∧ wp.ownsRow w1.heap.size 2 1 (.slice (some ⟨g, 0, none⟩) N cv) N (vals (wayL F T gg p D)) ∧ AirAt wm.heap.size ⟨s, (F : Int), (T : Int), l, c, rr, k⟩ wp) (fun _ pp _ => 2 - (intOf pp).toNat)
          case atStart => exact ⟨0, by omega, rfl, rfl, HI0.out.1, HI0.out.2, HA0.out⟩
          case round =>
            obtain ⟨p, hp, rfl, rfl, hbp, hrowp, hair⟩ := hrel
            have HA := Lib.hid hair
            have e0_w := cell_later hbp M.out.1
            have e1_w := cell_later hbp M.out.2.1
            have e2_w := cell_later hbp M.out.2.2.1
            have e3_w := cell_later hbp M.out.2.2.2.1
            have c2_w := cell_later hbp M.out.2.2.2.2.2
            clear hair c0 c1 c2 c3 c4 c5 c6
            have hp3 : p = 0 ∨ p = 1 ∨ p = 2 := by omega
            rcases hp3 with rfl | rfl | rfl
            · obtain ⟨Dp, hDp0⟩ : ∃ Dp, wayL F T gg 0 D = Dp := ⟨_, rfl⟩
              obtain ⟨mp, hmp0⟩ : ∃ mp, wayM F T gg 0 D m = mp := ⟨_, rfl⟩
              have hDe : D = Dp := hDp0
              have hMe : m = mp := hmp0
              have hDp : WBd (48 * q + 2 * i) Dp := by rw [← hDe]; exact HBD.out
              have hDl : Dp.length = N := by rw [← hDe]; exact HDL.out
              have HS : Hid (wrC F T gg Dp → wayL F T gg 1 D = Dp.set T (Dp.getD F 0 + gg) ∧ wayM F T gg 1 D m = true) := Lib.hid (by rw [← hDe]; exact way0.1)
              have HN : Hid (¬ wrC F T gg Dp → wayL F T gg 1 D = Dp ∧ wayM F T gg 1 D m = mp) := Lib.hid (by rw [← hDe, ← hMe]; exact way0.2)
              rw [hDp0] at hrowp
              rw [hmp0]
              clear hDe hMe hDp0 hmp0
              have hcp : wr.cell? ⟨g, F, none⟩ = some (.int .i64 (Dp.getD F 0)) := by
                rw [World.ownsRow.cellAt hrowp _ (by omega), vals_get (by omega), getD_pt (by omega)]
              have hcq : wr.cell? ⟨g, T, none⟩ = some (.int .i64 (Dp.getD T 0)) := by
                rw [World.ownsRow.cellAt hrowp _ (by omega), vals_get (by omega), getD_pt (by omega)]
              obtain ⟨x1, x2⟩ := hDp F
              obtain ⟨y1, y2⟩ := hDp T
              have hbx : Dp.getD F 0 ≤ 2000000000 := by omega
              have hby : Dp.getD T 0 ≤ 2000000000 := by omega
              have HOI := Lib.hid (And.intro hbp hrowp)
              have hBw := hbp.size
              clear hrowp x2 y2 hDp
              have HCC : Hid (∀ x y : Int, Dp.getD F 0 = x → Dp.getD T 0 = y → (0 ≤ x → (y < 0 ∨ x + gg < y) → wrC F T gg Dp) ∧ (¬ (0 ≤ x ∧ (y < 0 ∨ x + gg < y)) → ¬ wrC F T gg Dp)) := Lib.hid (by intro x y e1 e2; unfold wrC; rw [e1, e2]; exact ⟨fun h1 h2 => ⟨h1, h2⟩, fun h => h⟩)
              obtain ⟨x, hxe⟩ : ∃ x, Dp.getD F 0 = x := ⟨_, rfl⟩
              obtain ⟨y, hye⟩ : ∃ y, Dp.getD T 0 = y := ⟨_, rfl⟩
              have HXY := Lib.hid (HCC.out x y hxe hye)
              rw [hxe] at hcp x1 hbx HS
              rw [hye] at hcq y1 hby
              clear hxe hye HCC
              have hwx : IntKind.i64.wrap (x + gg) = x + gg := IntWalk.i64_in _ (by omega)
              have W1 : Below wr.heap.size wr (wr.alloc (.cells #[.int .i64 (F : Int), .int .i64 (T : Int)] 165)) := (Below.refl _ _).alloc (Nat.le_refl _) _
              have q0 := fun L : Later (wr.alloc (.cells #[.int .i64 (F : Int), .int .i64 (T : Int)] 165)) => L.cell (p := ⟨wr.heap.size, 0, none⟩) (v := .int .i64 (F : Int)) (by simp)
              have q3 := fun L : Later (wr.alloc (.cells #[.int .i64 (F : Int), .int .i64 (T : Int)] 165)) => L.cell (Lib.cell?_alloc_some _ hcp)
              have q5 := fun L : Later (wr.alloc (.cells #[.int .i64 (F : Int), .int .i64 (T : Int)] 165)) => L.cell (Lib.cell?_alloc_some _ c2_w)
              have a0 := fun L : Later (wr.alloc (.cells #[.int .i64 (F : Int), .int .i64 (T : Int)] 165)) => L.cell (Lib.cell?_alloc_some _ (HA.out 0 _ rfl))
              have a1 := fun L : Later (wr.alloc (.cells #[.int .i64 (F : Int), .int .i64 (T : Int)] 165)) => L.cell (Lib.cell?_alloc_some _ (HA.out 1 _ rfl))
              have a2 := fun L : Later (wr.alloc (.cells #[.int .i64 (F : Int), .int .i64 (T : Int)] 165)) => L.cell (Lib.cell?_alloc_some _ (HA.out 2 _ rfl))
              have a3 := fun L : Later (wr.alloc (.cells #[.int .i64 (F : Int), .int .i64 (T : Int)] 165)) => L.cell (Lib.cell?_alloc_some _ (HA.out 3 _ rfl))
              have a4 := fun L : Later (wr.alloc (.cells #[.int .i64 (F : Int), .int .i64 (T : Int)] 165)) => L.cell (Lib.cell?_alloc_some _ (HA.out 4 _ rfl))
              have a5 := fun L : Later (wr.alloc (.cells #[.int .i64 (F : Int), .int .i64 (T : Int)] 165)) => L.cell (Lib.cell?_alloc_some _ (HA.out 5 _ rfl))
              have a6 := fun L : Later (wr.alloc (.cells #[.int .i64 (F : Int), .int .i64 (T : Int)] 165)) => L.cell (Lib.cell?_alloc_some _ (HA.out 6 _ rfl))
              go_wp2
              refine wp_region_later (by kernel_rfl) (by kernel_rfl) ?_
              repeat (go_big_quiet_step ((go_at_call 148; first | (with_reducible exact later_b (HW.out _)) | (with_reducible exact later_d (HW.out _)) | (with_reducible exact later_s (HW.out _)))))
              refine wpQuiet_nil ?_
              intro _ hw'
              obtain ⟨LL, hw''⟩ := hw'
              subst hw''
              have r0 := LL.cell (p := ⟨wr.heap.size, 0, none⟩) (v := .int .i64 (F : Int)) (by simp)
              have r1 := LL.cell (p := ⟨wr.heap.size, 1, none⟩) (v := .int .i64 (T : Int)) (by simp)
              have hbl := W1.trans (LL.below.mono (by simp))
              have r2 := cell_later hbl hcp
              have r3 := cell_later hbl hcq
              have e0_l := cell_later hbl e0_w
              have e1_l := cell_later hbl e1_w
              have e2_l := cell_later hbl e2_w
              have e3_l := cell_later hbl e3_w
              have HK := Lib.hid (wk_later HOI.out hBw hbl)
              have HA2 := Lib.hid (HA.out.later hbl)
              have hrg : g < LL.world.heap.size := World.block_lt_of_cell? _ _ r2
              have hrw : wr.heap.size < LL.world.heap.size := World.block_lt_of_cell? _ _ r0
              clear q0 q3 q5 a0 a1 a2 a3 a4 a5 a6 hbl W1 hwx hcp hcq
              generalize LL.world = wl at *
              by_cases hx0 : 0 ≤ x
              · have hx0b : decide (0 ≤ x) = true := decide_eq_true hx0
                by_cases hy0 : y < 0
                · have hy0b : decide (y < 0) = true := decide_eq_true hy0
                  obtain ⟨e1, e2⟩ := HS.out (HXY.out.1 hx0 (.inl hy0))
                  have E1 := Lib.hid e1
                  have E2 := Lib.hid e2
                  clear e1 e2 HS HN
                  go_wp2_with fail
                  refine (mayBe_w N (some ⟨b, o, none⟩) cp xs.length ca AR T (x + gg) w.heap.size wl (by omega) (HAR.out.below (be0.trans (HK.out.1.mono be0.size)))).mono ?_
                  rintro e w5 ⟨rfl, hb5⟩
                  have r1' := cell_later hb5 r1
                  have r3' := cell_later hb5 r3
                  have HK5 := Lib.hid (wk_later HK.out HK.out.1.size hb5)
                  have hfz5 : w5.frozen? ⟨g, T, none⟩ = false := World.ownsRow.frozenAt HK5.out.2 T
                  have HA5 := Lib.hid (HA2.out.later hb5)
                  go_wp2_with fail
                  go_roundw
                  case rel => exact ⟨1, by omega, by go_num, by rw [E2.out], (fit_set HK5.out hg1 _ _).1, by rw [E1.out]; exact (fit_set HK5.out hg1 _ _).2, HA5.out.set (by omega)⟩
                  case measure => simp [intOf]
                · have hy0b : decide (y < 0) = false := decide_eq_false hy0
                  by_cases hc1 : x + gg < y
                  · have hc1b : decide (x + gg < y) = true := decide_eq_true hc1
                    obtain ⟨e1, e2⟩ := HS.out (HXY.out.1 hx0 (.inr hc1))
                    have E1 := Lib.hid e1
                    have E2 := Lib.hid e2
                    clear e1 e2 HS HN
                    go_wp2_with fail
                    refine (mayBe_w N (some ⟨b, o, none⟩) cp xs.length ca AR T (x + gg) w.heap.size wl (by omega) (HAR.out.below (be0.trans (HK.out.1.mono be0.size)))).mono ?_
                    rintro e w5 ⟨rfl, hb5⟩
                    have r1' := cell_later hb5 r1
                    have r3' := cell_later hb5 r3
                    have HK5 := Lib.hid (wk_later HK.out HK.out.1.size hb5)
                    have hfz5 : w5.frozen? ⟨g, T, none⟩ = false := World.ownsRow.frozenAt HK5.out.2 T
                    have HA5 := Lib.hid (HA2.out.later hb5)
                    go_wp2_with fail
                    go_roundw
                    case rel => exact ⟨1, by omega, by go_num, by rw [E2.out], (fit_set HK5.out hg1 _ _).1, by rw [E1.out]; exact (fit_set HK5.out hg1 _ _).2, HA5.out.set (by omega)⟩
                    case measure => simp [intOf]
                  · have hc1b : decide (x + gg < y) = false := decide_eq_false hc1
                    obtain ⟨e1, e2⟩ := HN.out (HXY.out.2 (by omega))
                    have E1 := Lib.hid e1
                    have E2 := Lib.hid e2
                    clear e1 e2 HS HN
                    go_wp2
                    go_roundw
                    case rel => exact ⟨1, by omega, by go_num, by rw [E2.out], HK.out.1, by rw [E1.out]; exact HK.out.2, HA2.out⟩
                    case measure => simp [intOf]
              · have hx0b : decide (0 ≤ x) = false := decide_eq_false hx0
                by_cases hy0 : y < 0
                · have hy0b : decide (y < 0) = true := decide_eq_true hy0
                  obtain ⟨e1, e2⟩ := HN.out (HXY.out.2 (by omega))
                  have E1 := Lib.hid e1
                  have E2 := Lib.hid e2
                  clear e1 e2 HS HN
                  go_wp2
                  go_roundw
                  case rel => exact ⟨1, by omega, by go_num, by rw [E2.out], HK.out.1, by rw [E1.out]; exact HK.out.2, HA2.out⟩
                  case measure => simp [intOf]
                · have hy0b : decide (y < 0) = false := decide_eq_false hy0
                  by_cases hc1 : x + gg < y
                  · have hc1b : decide (x + gg < y) = true := decide_eq_true hc1
                    obtain ⟨e1, e2⟩ := HN.out (HXY.out.2 (by omega))
                    have E1 := Lib.hid e1
                    have E2 := Lib.hid e2
                    clear e1 e2 HS HN
                    go_wp2
                    go_roundw
                    case rel => exact ⟨1, by omega, by go_num, by rw [E2.out], HK.out.1, by rw [E1.out]; exact HK.out.2, HA2.out⟩
                    case measure => simp [intOf]
                  · have hc1b : decide (x + gg < y) = false := decide_eq_false hc1
                    obtain ⟨e1, e2⟩ := HN.out (HXY.out.2 (by omega))
                    have E1 := Lib.hid e1
                    have E2 := Lib.hid e2
                    clear e1 e2 HS HN
                    go_wp2
                    go_roundw
                    case rel => exact ⟨1, by omega, by go_num, by rw [E2.out], HK.out.1, by rw [E1.out]; exact HK.out.2, HA2.out⟩
                    case measure => simp [intOf]
            · obtain ⟨Dp, hDp0⟩ : ∃ Dp, wayL F T gg 1 D = Dp := ⟨_, rfl⟩
              obtain ⟨mp, hmp0⟩ : ∃ mp, wayM F T gg 1 D m = mp := ⟨_, rfl⟩
              have hDp : WBd (48 * q + 2 * i + 1) Dp := by rw [← hDp0]; exact WBd.wrl HBD.out ⟨g1, g2⟩ (by rw [HDL.out]; exact hE2)
              have hDl : Dp.length = N := by rw [← hDp0, way_len]; exact HDL.out
              have HS := Lib.hid (way1 hDp0 hmp0).1
              have HN := Lib.hid (way1 hDp0 hmp0).2
              rw [hDp0] at hrowp
              rw [hmp0]
              clear hDp0 hmp0
              have hcp : wr.cell? ⟨g, T, none⟩ = some (.int .i64 (Dp.getD T 0)) := by
                rw [World.ownsRow.cellAt hrowp _ (by omega), vals_get (by omega), getD_pt (by omega)]
              have hcq : wr.cell? ⟨g, F, none⟩ = some (.int .i64 (Dp.getD F 0)) := by
                rw [World.ownsRow.cellAt hrowp _ (by omega), vals_get (by omega), getD_pt (by omega)]
              obtain ⟨x1, x2⟩ := hDp T
              obtain ⟨y1, y2⟩ := hDp F
              have hbx : Dp.getD T 0 ≤ 2000000000 := by omega
              have hby : Dp.getD F 0 ≤ 2000000000 := by omega
              have HOI := Lib.hid (And.intro hbp hrowp)
              have hBw := hbp.size
              clear hrowp x2 y2 hDp
              have HCC : Hid (∀ x y : Int, Dp.getD T 0 = x → Dp.getD F 0 = y → (0 ≤ x → (y < 0 ∨ x + gg < y) → wrC T F gg Dp) ∧ (¬ (0 ≤ x ∧ (y < 0 ∨ x + gg < y)) → ¬ wrC T F gg Dp)) := Lib.hid (by intro x y e1 e2; unfold wrC; rw [e1, e2]; exact ⟨fun h1 h2 => ⟨h1, h2⟩, fun h => h⟩)
              obtain ⟨x, hxe⟩ : ∃ x, Dp.getD T 0 = x := ⟨_, rfl⟩
              obtain ⟨y, hye⟩ : ∃ y, Dp.getD F 0 = y := ⟨_, rfl⟩
              have HXY := Lib.hid (HCC.out x y hxe hye)
              rw [hxe] at hcp x1 hbx HS
              rw [hye] at hcq y1 hby
              clear hxe hye HCC
              have hwx : IntKind.i64.wrap (x + gg) = x + gg := IntWalk.i64_in _ (by omega)
              have W1 : Below wr.heap.size wr (wr.alloc (.cells #[.int .i64 (T : Int), .int .i64 (F : Int)] 165)) := (Below.refl _ _).alloc (Nat.le_refl _) _
              have q0 := fun L : Later (wr.alloc (.cells #[.int .i64 (T : Int), .int .i64 (F : Int)] 165)) => L.cell (p := ⟨wr.heap.size, 0, none⟩) (v := .int .i64 (T : Int)) (by simp)
              have q3 := fun L : Later (wr.alloc (.cells #[.int .i64 (T : Int), .int .i64 (F : Int)] 165)) => L.cell (Lib.cell?_alloc_some _ hcp)
              have q5 := fun L : Later (wr.alloc (.cells #[.int .i64 (T : Int), .int .i64 (F : Int)] 165)) => L.cell (Lib.cell?_alloc_some _ c2_w)
              have a0 := fun L : Later (wr.alloc (.cells #[.int .i64 (T : Int), .int .i64 (F : Int)] 165)) => L.cell (Lib.cell?_alloc_some _ (HA.out 0 _ rfl))
              have a1 := fun L : Later (wr.alloc (.cells #[.int .i64 (T : Int), .int .i64 (F : Int)] 165)) => L.cell (Lib.cell?_alloc_some _ (HA.out 1 _ rfl))
              have a2 := fun L : Later (wr.alloc (.cells #[.int .i64 (T : Int), .int .i64 (F : Int)] 165)) => L.cell (Lib.cell?_alloc_some _ (HA.out 2 _ rfl))
              have a3 := fun L : Later (wr.alloc (.cells #[.int .i64 (T : Int), .int .i64 (F : Int)] 165)) => L.cell (Lib.cell?_alloc_some _ (HA.out 3 _ rfl))
              have a4 := fun L : Later (wr.alloc (.cells #[.int .i64 (T : Int), .int .i64 (F : Int)] 165)) => L.cell (Lib.cell?_alloc_some _ (HA.out 4 _ rfl))
              have a5 := fun L : Later (wr.alloc (.cells #[.int .i64 (T : Int), .int .i64 (F : Int)] 165)) => L.cell (Lib.cell?_alloc_some _ (HA.out 5 _ rfl))
              have a6 := fun L : Later (wr.alloc (.cells #[.int .i64 (T : Int), .int .i64 (F : Int)] 165)) => L.cell (Lib.cell?_alloc_some _ (HA.out 6 _ rfl))
              go_wp2
              refine wp_region_later (by kernel_rfl) (by kernel_rfl) ?_
              repeat (go_big_quiet_step ((go_at_call 148; first | (with_reducible exact later_b (HW.out _)) | (with_reducible exact later_d (HW.out _)) | (with_reducible exact later_s (HW.out _)))))
              refine wpQuiet_nil ?_
              intro _ hw'
              obtain ⟨LL, hw''⟩ := hw'
              subst hw''
              have r0 := LL.cell (p := ⟨wr.heap.size, 0, none⟩) (v := .int .i64 (T : Int)) (by simp)
              have r1 := LL.cell (p := ⟨wr.heap.size, 1, none⟩) (v := .int .i64 (F : Int)) (by simp)
              have hbl := W1.trans (LL.below.mono (by simp))
              have r2 := cell_later hbl hcp
              have r3 := cell_later hbl hcq
              have e0_l := cell_later hbl e0_w
              have e1_l := cell_later hbl e1_w
              have e2_l := cell_later hbl e2_w
              have e3_l := cell_later hbl e3_w
              have HK := Lib.hid (wk_later HOI.out hBw hbl)
              have HA2 := Lib.hid (HA.out.later hbl)
              have hrg : g < LL.world.heap.size := World.block_lt_of_cell? _ _ r2
              have hrw : wr.heap.size < LL.world.heap.size := World.block_lt_of_cell? _ _ r0
              clear q0 q3 q5 a0 a1 a2 a3 a4 a5 a6 hbl W1 hwx hcp hcq
              generalize LL.world = wl at *
              by_cases hx0 : 0 ≤ x
              · have hx0b : decide (0 ≤ x) = true := decide_eq_true hx0
                by_cases hy0 : y < 0
                · have hy0b : decide (y < 0) = true := decide_eq_true hy0
                  obtain ⟨e1, e2⟩ := HS.out (HXY.out.1 hx0 (.inl hy0))
                  have E1 := Lib.hid e1
                  have E2 := Lib.hid e2
                  clear e1 e2 HS HN
                  go_wp2_with fail
                  refine (mayBe_w N (some ⟨b, o, none⟩) cp xs.length ca AR F (x + gg) w.heap.size wl (by omega) (HAR.out.below (be0.trans (HK.out.1.mono be0.size)))).mono ?_
                  rintro e w5 ⟨rfl, hb5⟩
                  have r1' := cell_later hb5 r1
                  have r3' := cell_later hb5 r3
                  have HK5 := Lib.hid (wk_later HK.out HK.out.1.size hb5)
                  have hfz5 : w5.frozen? ⟨g, F, none⟩ = false := World.ownsRow.frozenAt HK5.out.2 F
                  have HA5 := Lib.hid (HA2.out.later hb5)
                  go_wp2_with fail
                  go_roundw
                  case rel => exact ⟨2, by omega, by go_num, by rw [E2.out], (fit_set HK5.out hg1 _ _).1, by rw [E1.out]; exact (fit_set HK5.out hg1 _ _).2, HA5.out.set (by omega)⟩
                  case measure => simp [intOf]
                · have hy0b : decide (y < 0) = false := decide_eq_false hy0
                  by_cases hc1 : x + gg < y
                  · have hc1b : decide (x + gg < y) = true := decide_eq_true hc1
                    obtain ⟨e1, e2⟩ := HS.out (HXY.out.1 hx0 (.inr hc1))
                    have E1 := Lib.hid e1
                    have E2 := Lib.hid e2
                    clear e1 e2 HS HN
                    go_wp2_with fail
                    refine (mayBe_w N (some ⟨b, o, none⟩) cp xs.length ca AR F (x + gg) w.heap.size wl (by omega) (HAR.out.below (be0.trans (HK.out.1.mono be0.size)))).mono ?_
                    rintro e w5 ⟨rfl, hb5⟩
                    have r1' := cell_later hb5 r1
                    have r3' := cell_later hb5 r3
                    have HK5 := Lib.hid (wk_later HK.out HK.out.1.size hb5)
                    have hfz5 : w5.frozen? ⟨g, F, none⟩ = false := World.ownsRow.frozenAt HK5.out.2 F
                    have HA5 := Lib.hid (HA2.out.later hb5)
                    go_wp2_with fail
                    go_roundw
                    case rel => exact ⟨2, by omega, by go_num, by rw [E2.out], (fit_set HK5.out hg1 _ _).1, by rw [E1.out]; exact (fit_set HK5.out hg1 _ _).2, HA5.out.set (by omega)⟩
                    case measure => simp [intOf]
                  · have hc1b : decide (x + gg < y) = false := decide_eq_false hc1
                    obtain ⟨e1, e2⟩ := HN.out (HXY.out.2 (by omega))
                    have E1 := Lib.hid e1
                    have E2 := Lib.hid e2
                    clear e1 e2 HS HN
                    go_wp2
                    go_roundw
                    case rel => exact ⟨2, by omega, by go_num, by rw [E2.out], HK.out.1, by rw [E1.out]; exact HK.out.2, HA2.out⟩
                    case measure => simp [intOf]
              · have hx0b : decide (0 ≤ x) = false := decide_eq_false hx0
                by_cases hy0 : y < 0
                · have hy0b : decide (y < 0) = true := decide_eq_true hy0
                  obtain ⟨e1, e2⟩ := HN.out (HXY.out.2 (by omega))
                  have E1 := Lib.hid e1
                  have E2 := Lib.hid e2
                  clear e1 e2 HS HN
                  go_wp2
                  go_roundw
                  case rel => exact ⟨2, by omega, by go_num, by rw [E2.out], HK.out.1, by rw [E1.out]; exact HK.out.2, HA2.out⟩
                  case measure => simp [intOf]
                · have hy0b : decide (y < 0) = false := decide_eq_false hy0
                  by_cases hc1 : x + gg < y
                  · have hc1b : decide (x + gg < y) = true := decide_eq_true hc1
                    obtain ⟨e1, e2⟩ := HN.out (HXY.out.2 (by omega))
                    have E1 := Lib.hid e1
                    have E2 := Lib.hid e2
                    clear e1 e2 HS HN
                    go_wp2
                    go_roundw
                    case rel => exact ⟨2, by omega, by go_num, by rw [E2.out], HK.out.1, by rw [E1.out]; exact HK.out.2, HA2.out⟩
                    case measure => simp [intOf]
                  · have hc1b : decide (x + gg < y) = false := decide_eq_false hc1
                    obtain ⟨e1, e2⟩ := HN.out (HXY.out.2 (by omega))
                    have E1 := Lib.hid e1
                    have E2 := Lib.hid e2
                    clear e1 e2 HS HN
                    go_wp2
                    go_roundw
                    case rel => exact ⟨2, by omega, by go_num, by rw [E2.out], HK.out.1, by rw [E1.out]; exact HK.out.2, HA2.out⟩
                    case measure => simp [intOf]
            · have HOI := Lib.hid (And.intro hbp hrowp)
              clear hrowp
              go_wp2
              go_roundw
              case rel => exact ⟨i + 1, by omega, by go_num, by rw [HMM.out], HOI.out.1, by rw [HL.out]; exact HOI.out.2⟩
              case measure => simp [intOf]; omega
        · obtain rfl : i = xs.length := by omega
          have HOI := Lib.hid howni
          clear howni
          have HDe : Hid (d = wrs xs (gw v xs) q (wstart N a)) := HDD
          cases hmv : wmv xs (gw v xs) xs.length d
          · have HV : Hid (wrnd xs (gw v xs) xs.length d = walkL N xs a v) := Lib.hid (by
              rw [wmv_no hmv, HDD.out]
              rw [HDD.out] at hmv
              exact (wend (by omega) hmv).symm)
            go_wp2
            go_roundg 0
            case measure => omega
            case rel => exact ⟨false, _, rfl, .inr ⟨rfl, rfl⟩, hbi, by rw [← HV.out]; exact HOI.out⟩
          · have hq2 : q + 2 ≤ N := by
              by_cases h : q + 2 ≤ N
              · exact h
              · exfalso
                rw [HDD.out] at hmv
                have := wstop (wstart_bd N a) HE.out HWG.out (wstart_len N a) hN1 hN2 hxn (q := q) (by omega)
                rw [this] at hmv
                cases hmv
            go_wp2
            go_roundg (N - (q + 1))
            case measure => omega
            case rel => exact ⟨true, wrnd xs (gw v xs) xs.length d, rfl, .inl ⟨rfl, q + 1, by omega, by rw [HDD.out]; rfl, by omega⟩, hbi, HOI.out⟩
end Go.Proofs.Ytlgagnbnjfneaaa
