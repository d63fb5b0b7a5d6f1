/- Temperatures at junctions: the reference's rounds. Conditions: the facts on memory and on lengths that each theorem names. -/
import Derived.Test.YtlgagnbnjfneaaaTeI
import Derived.Test.YtlgagnbnjfneaaaTeQ
import Derived.Test.YtlgagnbnjfneaaaTeH
namespace Go.Proofs.Ytlgagnbnjfneaaa
open Go.RowKit
open Pl
/-- An append to the first of two lists. -/
theorem Two.leftA {base : Nat} {W w1 : World} {u u' v : Value} {xs ys : List Int} {x : Int} (h : Two base W u v xs ys) (hB : base ≤ W.heap.size)
    (hown : w1.ownsRow base 2 1 u' (xs.length + 1) (vals xs ++ [.int .i64 x])) (hgrow : W.grownBy w1 u.ownBlock) (hat : u'.ownBlock = u.ownBlock ∨ u'.ownBlock = some W.heap.size) :
    Two base w1 u' v (xs ++ [x]) ys ∧ Below base W w1 := by
  refine ⟨⟨Own.appended hown, h.r.kept hgrow ?_, ?_⟩, Own.grew (Below.refl _ _) h.l (Nat.le_refl _) hB hgrow⟩
  · cases hv : v.ownBlock with
    | none => exact .inl rfl
    | some k => exact .inr (fun e => h.ne k e.symm hv)
  · intro k hk
    rcases hat with hat | hat
    · exact h.ne k (by rw [← hat]; exact hk)
    · intro hv
      rw [hat] at hk
      injection hk with hk
      have := (World.ownsRow.lt h.r k hv).2
      omega
theorem Two.rightA {base : Nat} {W w1 : World} {u v v' : Value} {xs ys : List Int} {x : Int} (h : Two base W u v xs ys) (hB : base ≤ W.heap.size)
    (hown : w1.ownsRow base 2 1 v' (ys.length + 1) (vals ys ++ [.int .i64 x])) (hgrow : W.grownBy w1 v.ownBlock) (hat : v'.ownBlock = v.ownBlock ∨ v'.ownBlock = some W.heap.size) :
    Two base w1 u v' xs (ys ++ [x]) ∧ Below base W w1 := by
  obtain ⟨a, b⟩ := h.swap.leftA hB hown hgrow hat
  exact ⟨a.swap, b⟩
/-- Two new lists, with nothing in them. -/
theorem Two.empties (w : World) (o o' : Obj) (h : o = .cells #[] 2) (h' : o' = .cells #[] 2) :
    Two w.heap.size ((w.alloc o).alloc o') (.slice (some ⟨w.heap.size, 0, none⟩) 0 0) (.slice (some ⟨w.heap.size + 1, 0, none⟩) 0 0) [] [] := by
  subst h h'
  refine ⟨(Own.empty (Nat.le_refl _)).later ((Below.refl _ _).alloc (Nat.le_refl _) _), ?_, ?_⟩
  · have h := Own.empty (w := w.alloc (.cells #[] 2)) (base := w.heap.size) (by simp)
    simpa using h
  · intro g hg
    have hg : some w.heap.size = some g := hg
    injection hg with hg
    subst hg
    show some (w.heap.size + 1) ≠ some w.heap.size
    simp
/-- The two ways of an airway, as the reference has them. -/
theorem Hx.Ok.ways2 {H : Hx} {N k : Nat} (h : H.Ok N) (hk : k < H.xs.length) :
    (if 0 < H.fs.getD k 0 then (H.xs.getD k aNone).f else (H.xs.getD k aNone).t) = (H.s k : Int) ∧ (if 0 < H.fs.getD k 0 then (H.xs.getD k aNone).t else (H.xs.getD k aNone).f) = (H.e k : Int) := by
  obtain ⟨a, b⟩ := (mineB_ends h.hm).2 k hk
  unfold Hx.s Hx.e
  by_cases h1 : 0 < H.fs.getD k 0
  · rw [if_pos h1, if_pos h1, if_pos h1, if_pos h1]; exact ⟨a, b⟩
  · rw [if_neg h1, if_neg h1, if_neg h1, if_neg h1]; exact ⟨b, a⟩
set_option maxRecDepth 100000 in
set_option maxHeartbeats 12800000 in
theorem l16All_any (H : Hx) (bm om : Nat) (N : Nat) (A : Option Addr) (cp : Nat) (A1 : Option Addr) (c1 : Nat) (A2 : Option Addr) (c2 : Nat) (A3 : Option Addr) (c3 : Nat) (A4 : Option Addr) (c4 : Nat) (su : List Int) (t : Int) (w : World) (hO : H.Ok N) (hI : Recs encA 7 w.heap.size w A H.xs)
    (hI1 : Ints w.heap.size w A1 H.fs) (hI2 : Ints w.heap.size w A2 H.rs) (hI3 : Ints w.heap.size w A3 H.ps) (hI4 : Ints w.heap.size w A4 su) (hs : (su.length : Int) ≤ 1048576) (ht : -100 ≤ t ∧ t ≤ 600)
    (m0 : w.cell? ⟨bm, om, none⟩ = some (.int .i64 (N : Int))) (mm : w.cell? ⟨bm, om + 1, none⟩ = some (.slice A H.xs.length cp)) :
    Calls Try.prog 68 #[.pointer (some ⟨bm, om, none⟩), .slice A1 H.fs.length c1, .slice A2 H.rs.length c2, .slice A3 H.ps.length c3, .slice A4 su.length c4, .int .i64 t, .int .i64 H.q] w fun e w' => ∃ u, e = .returned u ∧ Own w.heap.size w' u (H.go N N (Hx.first N su t)) ∧ Below w.heap.size w w' := by
  obtain ⟨hN1, hN2⟩ := hO.n
  have hxn := hO.len
  have lf := hO.lf
  have lr := hO.lr
  have lp := hO.lp
  have HL := Lib.hid (And.intro lf (And.intro lr lp))
  obtain ⟨q1, q2⟩ := hO.hq
  obtain ⟨i0, hi, hz0, hz1, hz2⟩ := info_parts infoI
  have HF := Lib.hid (And.intro hi (And.intro hz0 (And.intro hz1 hz2)))
  have HO := Lib.hid hO
  have HT0 := Lib.hid (Hx.first_tl (N := N) (su := su) ht)
  have J0 := Lib.hid hI
  have J1 := Lib.hid hI1
  have J2 := Lib.hid hI2
  have J3 := Lib.hid hI3
  have HH : Hid (∀ (q : Nat) (W : World), Below w.heap.size w W → Calls Try.prog 111 #[.slice A4 su.length c4, .int .i64 (q : Int)] W fun e w' => e = .returned (.bool (decide ((q : Int) ∈ su))) ∧ Below W.heap.size W w') := Lib.hid (fun q W hb => (l00Has_any A4 c4 su q w.heap.size W hs (hI4.below hb)).mono (by rintro e _ ⟨rfl, n, rfl⟩; exact ⟨rfl, below_drewN (Below.refl _ _) n⟩))
  have M0 := Lib.hid m0
  have M1 := Lib.hid mm
  clear hO lf lr lp hi hz0 hz1 hz2 hI hI1 hI2 hI3 hI4 m0 mm ht
  go_enter Try.func68, Try.ntmps68
  go_wp2
  go_loopw [15, 16] (fun u ii wr => ∃ q : Nat, q ≤ N ∧ ii = .int .i64 q ∧ Below w.heap.size w wr ∧ Own w.heap.size wr u (Hx.first q su t)) (fun _ ii _ => N - (intOf ii).toNat)
  case atStart => exact ⟨0, Nat.zero_le _, rfl, (Below.refl _ _).alloc (Nat.le_refl _) _, Own.empty (Nat.le_refl _)⟩
  case round =>
    obtain ⟨q, hq, rfl, hb, ho⟩ := hrel
    have m0 := cell_later hb M0.out
    have m1 := cell_later hb M1.out
    have hsz := hb.size
    by_cases hlt : q < N
    · have HO1 := Lib.hid ho
      have HS := Lib.hid (Hx.first_succ q su t)
      have hl : (Hx.first q su t).length ≤ 16 := by rw [Hx.first_length]; omega
      have HHq := Lib.hid (HH.out q wr hb)
      clear ho
      generalize Hx.first q su t = D at *
      cases hmem : decide ((q : Int) ∈ su)
      · rw [hmem] at HHq
        have HMM := Lib.hid (of_decide_eq_false hmem)
        clear hmem
        go_wp2_with fail
        refine HHq.out.mono ?_
        rintro e wd ⟨rfl, hbd⟩
        have HOd := Lib.hid (HO1.out.later hbd)
        have hb2 := hb.trans (hbd.mono hsz)
        have hsz := hb2.size
        go_wp2_with (at_builtin; refine wpList_append_own_at _ rfl _ _ 25 rfl w.heap.size 2 i0 (.int .i64 0) 1 8 Try.underlying25 HF.out.1 HF.out.2.1 HF.out.2.2.1 HF.out.2.2.2 rfl (by decide) _ _ _ rfl (HOd.out.later ((Below.refl _ _).alloc (Nat.le_refl _) _)) ⟨wd.heap.size, 0, none⟩ 1 1 [.int .i64 (-1000)] rfl rfl (cell_one_new _ _ _) (by intro u hu; simp at hu; subst hu; rfl) (le_max (by omega)) (by omega) (by simp; omega) ?_; intro av aw ah ag an aa)
        have hbe2 : Below w.heap.size w aw := Below.appended hb2 HOd.out hsz ag
        have HO3 := Lib.hid (Own.appended ah)
        clear ah ag an aa
        go_wp2
        go_roundw
        case rel => exact ⟨q + 1, by omega, by go_num, hbe2, by rw [HS.out, if_neg HMM.out]; exact HO3.out⟩
        case measure => simp [intOf]; omega
      · rw [hmem] at HHq
        have HMM := Lib.hid (of_decide_eq_true hmem)
        clear hmem
        go_wp2_with fail
        refine HHq.out.mono ?_
        rintro e wd ⟨rfl, hbd⟩
        have HOd := Lib.hid (HO1.out.later hbd)
        have hb2 := hb.trans (hbd.mono hsz)
        have hsz := hb2.size
        go_wp2_with (at_builtin; refine wpList_append_own_at _ rfl _ _ 25 rfl w.heap.size 2 i0 (.int .i64 0) 1 8 Try.underlying25 HF.out.1 HF.out.2.1 HF.out.2.2.1 HF.out.2.2.2 rfl (by decide) _ _ _ rfl (HOd.out.later ((Below.refl _ _).alloc (Nat.le_refl _) _)) ⟨wd.heap.size, 0, none⟩ 1 1 [.int .i64 t] rfl rfl (cell_one_new _ _ _) (by intro u hu; simp at hu; subst hu; rfl) (le_max (by omega)) (by omega) (by simp; omega) ?_; intro av aw ah ag an aa)
        have hbe2 : Below w.heap.size w aw := Below.appended hb2 HOd.out hsz ag
        have HO3 := Lib.hid (Own.appended ah)
        clear ah ag an aa
        go_wp2
        go_roundw
        case rel => exact ⟨q + 1, by omega, by go_num, hbe2, by rw [HS.out, if_pos HMM.out]; exact HO3.out⟩
        case measure => simp [intOf]; omega
    · obtain rfl : N = q := by omega
      obtain ⟨AV, cv, hv, -, -⟩ := ho.slice
      rw [Hx.first_length] at hv
      subst hv
      obtain ⟨g, rfl, hg1, hrow⟩ := ho.row (n := N) (by omega) (Hx.first_length _ _ _)
      have HRow := Lib.hid hrow
      have HB := Lib.hid hb
      clear ho hrow m1 hb hsz HH
      obtain ⟨w3, hw3⟩ : ∃ w3 : World, w3 = wr := ⟨_, rfl⟩
      subst hw3
      go_wp2
      go_loopg [17] (N + 2) (fun kx _ wo => ∃ (r : Nat) (d : List Int), r ≤ kx ∧ H.Turn N (Hx.first N su t) r d ∧ Below w.heap.size w wo ∧ wo.ownsRow w.heap.size 2 1 (.slice (some ⟨g, 0, none⟩) N cv) N (vals d))
      case atStart => exact ⟨N, _, by omega, Hx.Turn.start H HT0.out, HB.out, HRow.out⟩
      case round =>
        obtain ⟨r, d, hrk, hT, hbo, howno⟩ := hrel
        have HTn := Lib.hid hT
        have HOO := Lib.hid howno
        have HBO := Lib.hid hbo
        clear hT howno hbo HRow HB
        obtain ⟨wo, hwo⟩ : ∃ wo : World, wo = wr := ⟨_, rfl⟩
        subst hwo
        go_wp2
        go_loopw [17, 18] (fun fo ii wi => ∃ i : Nat, i ≤ N ∧ ii = .int .i64 i ∧ ((fo = .bool false ∧ (∀ j, j < i → H.hit d j = false) ∧ Below w.heap.size w wi ∧ wi.ownsRow w.heap.size 2 1 (.slice (some ⟨g, 0, none⟩) N cv) N (vals d)) ∨ (fo = .bool true ∧ 0 < r ∧ ∃ d', H.Turn N (Hx.first N su t) (r - 1) d' ∧ Below w.heap.size w wi ∧ wi.ownsRow w.heap.size 2 1 (.slice (some ⟨g, 0, none⟩) N cv) N (vals d')))) (fun _ ii _ => N - (intOf ii).toNat)
        case atStart => exact ⟨0, Nat.zero_le _, rfl, .inl ⟨rfl, fun j hj => by omega, HBO.out, HOO.out⟩⟩
        case round =>
          obtain ⟨j, hj, rfl, hfo⟩ := hrel
          rcases hfo with ⟨rfl, hno, hbi, howni⟩ | ⟨rfl, hr0, d', hT', hbi, howni⟩
          rotate_left
          · have m0 := cell_later hbi M0.out
            have HT' := Lib.hid hT'
            have HBI := Lib.hid hbi
            have HOI := Lib.hid howni
            clear hT' hbi howni
            by_cases hjl : j < N
            all_goals
              go_wp2
              go_roundg (r - 1)
              case measure => omega
              case rel => exact ⟨r - 1, d', Nat.le_refl _, HT'.out, HBI.out, HOI.out⟩
          have m0 := cell_later hbi M0.out
          have m1 := cell_later hbi M1.out
          have HOI := Lib.hid howni
          have HNO := Lib.hid hno
          have hdl := HTn.out.tl.1
          have HBI := Lib.hid hbi
          clear hno
          by_cases hjl : j < N
          rotate_left
          · obtain rfl : N = j := by omega
            have HE := Lib.hid (HTn.out.done HNO.out)
            have HOO2 : Hid (Own w.heap.size wr (.slice (some ⟨g, 0, none⟩) N cv) d) := Lib.hid (Own.of_row howni hdl (by omega))
            clear howni hdl hbi
            go_wp2_with fail
            go_ret
            refine ⟨_, rfl, ?_, HBI.out⟩
            rw [← HE.out]
            exact HOO2.out
          have hj0 : (0 : Int) ≤ (j : Int) := by omega
          have hj1 : (j : Int) < N := by omega
          have hco : wr.cell? ⟨g, j, none⟩ = some (.int .i64 (d.getD j 0)) := by
            rw [World.ownsRow.cellAt howni j (by omega), vals_get (by omega), getD_pt (by omega)]
          have HDL := Lib.hid hdl
          clear howni hdl hbi
          by_cases hu : d.getD j 0 = -1000
          rotate_left
          · have HH : Hid (H.hit d j = false) := Lib.hid (by unfold Hx.hit; rw [decide_eq_false hu]; simp)
            have hub : (d.getD j 0 == -1000) = false := by rw [beq_eq_false_iff_ne]; exact hu
            generalize d.getD j 0 = x at *
            go_wp2_with fail
            go_roundw
            case rel =>
              refine ⟨j + 1, by omega, by go_num, .inl ⟨rfl, fun j' hj' => ?_, HBI.out, HOI.out⟩⟩
              by_cases e : j' = j
              · subst e; exact HH.out
              · exact HNO.out j' (by omega)
            case measure => simp [intOf]; omega
          have HU := Lib.hid hu
          rw [hu] at hco
          clear hu
          have hszj := HBI.out.size
          obtain ⟨wj, hwj⟩ : ∃ wj : World, wj = wr := ⟨_, rfl⟩
          subst hwj
          go_wp2
          go_loopw [19, 20, 21, 22] (fun u v rr ii wi => ∃ k : Nat, k ≤ H.xs.length ∧ ii = .int .i64 k ∧ rr = .bool (H.rdy d j k) ∧ Below wj.heap.size wj wi ∧ Two wj.heap.size wi u v (H.lA d j k) (H.lW d j k)) (fun _ _ _ ii _ => H.xs.length - (intOf ii).toNat)
          case atStart => exact ⟨0, Nat.zero_le _, rfl, rfl, ((Below.refl _ _).alloc (Nat.le_refl _) _).alloc (by simp) _, Two.empties _ _ _ rfl rfl⟩
          case round =>
            obtain ⟨k, hk, rfl, rfl, hb, hT⟩ := hrel
            obtain ⟨AU, cu, rfl, -, -⟩ := hT.l.slice
            obtain ⟨AW, cw, rfl, -, -⟩ := hT.r.slice
            have HT := Lib.hid hT
            obtain ⟨hln, hll⟩ := H.l_len d j k
            have HLN := Lib.hid hln
            have hbw : Below w.heap.size w wr := HBI.out.trans (hb.mono hszj)
            have n1 := cell_later hb m1
            have n0 := cell_later hb m0
            have HOw := Lib.hid (row_later HOI.out hb)
            clear hT hln
            by_cases hlt : k < H.xs.length
            · obtain ⟨e1, e2, e3⟩ := HL.out
              obtain ⟨ad1, rfl, hab1, hc1⟩ := (J1.out.below hbw).atD (k := k) (by omega)
              have hk1 : (k : Int) < H.fs.length := by omega
              have hk2 : (k : Int) < H.rs.length := by omega
              have hk3 : (k : Int) < H.ps.length := by omega
              have hk4 : (k : Int) < H.xs.length := by omega
              have hk0 : (0 : Int) ≤ (k : Int) := by omega
              clear e1 e2 e3
              obtain ⟨v, hv⟩ : ∃ v, H.fs.getD k 0 = v := ⟨_, rfl⟩
              rw [hv] at hc1
              have HV := Lib.hid hv
              obtain ⟨⟨s, f, t', l, c, r', kk⟩, hx⟩ : ∃ x, H.xs.getD k aNone = x := ⟨_, rfl⟩
              obtain ⟨b, o, hA, hab, g0, g1, g2, g3, g4, g5, g6⟩ := (J0.out.below hbw).cells7 hlt hx
              cases hA
              have HX := Lib.hid hx
              obtain ⟨hS, hE⟩ := HO.out.ways2 hlt
              rw [hv, hx] at hS hE
              have HW : Hid (∀ L : Later wr, Calls Try.prog 112 #[.pointer (some ⟨b, o + k * 7, none⟩), .int .i64 v] L.world fun e w' => e = .returned (.tuple #[.int .i64 (H.s k : Int), .int .i64 (H.e k : Int)]) ∧ ∃ n, L.world.drewN n = w') := Lib.hid (fun L => by
                have h := l16Into_any b (o + k * 7) f t' v L.world (L.cell g1) (L.cell g2)
                rw [show (if 0 < v then f else t') = (H.s k : Int) from hS, show (if 0 < v then t' else f) = (H.e k : Int) from hE] at h
                exact h)
              obtain ⟨hsN, heN⟩ := HO.out.s hlt
              have hsz := hb.size
              clear hx hv hS hE g0 g1 g2 g5 g6
              obtain ⟨S, hS⟩ : ∃ S, H.s k = S := ⟨_, rfl⟩
              obtain ⟨E, hE⟩ : ∃ E, H.e k = E := ⟨_, rfl⟩
              rw [hS, hE] at HW
              rw [hS] at hsN
              rw [hE] at heN
              have HSE := Lib.hid (And.intro hS hE)
              clear hS hE
              go_wp2
              have K1 := fun L : Later wr => L.cell n1
              have KD := fun L : Later wr => L.cell hc1
              refine wp_region_later (by kernel_rfl) (by kernel_rfl) ?_
              repeat (go_big_quiet_step ((go_at_call 112; first | (with_reducible exact later_b (HW.out _)) | (with_reducible exact later_d (HW.out _)) | (with_reducible exact later_s (HW.out _)))))
              refine wpQuiet_nil ?_
              intro _ hw'
              obtain ⟨LL, hw''⟩ := hw'
              subst hw''
              clear K1 KD
              have c5 := cell_later LL.below hc1
              have p1 := cell_later LL.below n1
              have p3 := cell_later LL.below g3
              have p4 := cell_later LL.below g4
              have hb5 := hb.trans (LL.below.mono hb.size)
              have hT5 := Lib.hid (HT.out.later LL.below)
              have HO5 := Lib.hid (row_later HOw.out LL.below)
              generalize LL.world = w5 at *
              have hsz5 : wj.heap.size ≤ w5.heap.size := hb5.size
              have hbw5 : Below w.heap.size w w5 := HBI.out.trans (hb5.mono hszj)
              clear n0 n1 g3 g4 hc1 HOw HT
              by_cases h0 : v = 0
              · have htk : H.tk d j k = false := by unfold Hx.tk Hx.cm; rw [HV.out, h0]; rfl
                have hbd : H.bad d j k = false := by unfold Hx.bad Hx.cm; rw [HV.out, h0]; rfl
                have HE := Lib.hid (And.intro htk hbd)
                clear htk hbd
                subst h0
                go_wp2
                go_roundw
                case rel =>
                  refine ⟨k + 1, by omega, by go_num, ?_, hb5, ?_⟩
                  · rw [H.rdy_succ, HE.out.2]; simp
                  · rw [H.lA_no HE.out.1, H.lW_no HE.out.1]; exact hT5.out
                case measure => simp [intOf]; omega
              have h0b : (v == 0) = false := by rw [beq_eq_false_iff_ne]; exact h0
              by_cases hj : E = j
              rotate_left
              · have hjb : ((E : Int) == (j : Int)) = false := by rw [beq_eq_false_iff_ne]; omega
                have htk : H.tk d j k = false := by unfold Hx.tk Hx.cm; rw [HSE.out.2, decide_eq_false hj]; simp
                have hbd : H.bad d j k = false := by unfold Hx.bad Hx.cm; rw [HSE.out.2, decide_eq_false hj]; simp
                have HE := Lib.hid (And.intro htk hbd)
                have hji : ¬ (E : Int) = (j : Int) := by omega
                clear htk hbd
                go_wp2
                go_roundw
                case rel =>
                  refine ⟨k + 1, by omega, by go_num, ?_, hb5, ?_⟩
                  · rw [H.rdy_succ, HE.out.2]; simp
                  · rw [H.lA_no HE.out.1, H.lW_no HE.out.1]; exact hT5.out
                case measure => simp [intOf]; omega
              have hcm : H.cm j k = true := by unfold Hx.cm; rw [HV.out, HSE.out.2, decide_eq_true hj, decide_eq_true h0]; rfl
              have HCM := Lib.hid hcm
              clear hcm
              subst hj
              have hS0 : (0 : Int) ≤ (S : Int) := by omega
              have hS1 : (S : Int) < N := by omega
              have hc4 : w5.cell? ⟨g, S, none⟩ = some (.int .i64 (d.getD S 0)) := by
                have hdl := HDL.out
                rw [World.ownsRow.cellAt HO5.out S (by omega), vals_get (by omega), getD_pt (by omega)]
              by_cases hu2 : d.getD S 0 = -1000
              · have hkn : H.kn d k = false := by unfold Hx.kn; rw [HSE.out.1]; exact decide_eq_false (fun h => h hu2)
                have hbd : H.bad d E k = true := by unfold Hx.bad; rw [HCM.out, hkn]; rfl
                have htk : H.tk d E k = false := by unfold Hx.tk; rw [hkn, Bool.and_false]
                have HE := Lib.hid (And.intro htk hbd)
                rw [hu2] at hc4
                clear hu2 hkn hbd htk
                go_wp2
                go_roundw
                case rel =>
                  refine ⟨k + 1, by omega, by go_num, ?_, hb5, ?_⟩
                  · rw [H.rdy_succ, HE.out.2]; simp
                  · rw [H.lA_no HE.out.1, H.lW_no HE.out.1]; exact hT5.out
                case measure => simp [intOf]; omega
              have hkn : H.kn d k = true := by unfold Hx.kn; rw [HSE.out.1]; exact decide_eq_true hu2
              have hv0 : H.fs.getD k 0 ≠ 0 := by rw [HV.out]; exact h0
              obtain ⟨⟨t1, t2⟩, t3, t4⟩ := HO.out.wrm HTn.out.tl hlt hkn
              obtain ⟨a1, a2⟩ := HO.out.amt hlt hv0
              obtain ⟨⟨l1, l2⟩, D1, D2, D3, D4⟩ := HO.out.tm hlt hv0
              obtain ⟨r1, r2⟩ := HO.out.hr k hlt
              obtain ⟨p1', p2'⟩ := HO.out.hp k hlt
              obtain ⟨v1, v2⟩ := HO.out.hf k hlt
              obtain ⟨o1, o2⟩ := heat_bd (q := H.amt k) p1' p2'
              obtain ⟨ad2, rfl, hab2, hc2⟩ := (J2.out.below hbw5).atD (k := k) (by rw [HL.out.2.1]; exact hlt)
              obtain ⟨ad3, rfl, hab3, hc3⟩ := (J3.out.below hbw5).atD (k := k) (by rw [HL.out.2.2]; exact hlt)
              rw [HSE.out.1] at t1 t2
              rw [HV.out] at v1 v2
              have ham : H.amt k = ((v.natAbs : Nat) : Int) := by unfold Hx.amt; rw [HV.out]
              have HA : Hid (∀ W, Calls Try.prog 89 #[.int .i64 v] W fun e w' => e = .returned (.int .i64 (H.amt k)) ∧ W = w') := Lib.hid (fun W => by rw [ham]; exact l03Abs_n v W (by omega) (by omega))
              have hlc : (H.xs.getD k aNone).l * (H.xs.getD k aNone).c = l * c := by rw [HX.out]
              rw [hlc] at l1 l2 D1 D2
              have htm : H.tm k = mn 100000 (divU (l * c) (H.amt k)) := by unfold Hx.tm; rw [hlc]
              have HTm : Hid (∀ L : Later w5, Calls Try.prog 115 #[.pointer (some ⟨b, o + k * 7, none⟩), .int .i64 v] L.world fun e w' => e = .returned (.int .i64 (divU (l * c) (H.amt k))) ∧ ∃ n, L.world.drewN n = w') := Lib.hid (fun L => by
                rw [ham]; exact l03Time_any b (o + k * 7) l c v L.world l1 l2 v1 v2 (by omega) (L.cell p3) (L.cell p4))
              have HMi : Hid (∀ W, Calls Try.prog 114 #[.int .i64 100000, .int .i64 (divU (l * c) (H.amt k))] W fun e w' => e = .returned (.int .i64 (H.tm k)) ∧ W = w') := Lib.hid (fun W => by rw [htm]; exact l00Min_any _ _ W)
              have HMw : Hid (∀ W, Calls Try.prog 113 #[.int .i64 (d.getD S 0), .int .i64 (H.rs.getD k 0), .int .i64 H.q, .int .i64 (H.tm k)] W fun e w' => e = .returned (.int .i64 (H.wrm d k)) ∧ W = w') := Lib.hid (fun W => by
                have h := l16Warm_any (d.getD S 0) (H.rs.getD k 0) H.q (H.tm k).toNat W t1 t2 r1 r2 q1 q2 (by omega)
                rw [Int.toNat_of_nonneg D3, ← HSE.out.1] at h
                rw [← HSE.out.1]
                exact h)
              have HHt := Lib.hid (fun W => l16Heat_any (H.ps.getD k 0) (H.amt k) 1200 W p1' p2' a1 a2 (by omega) (by omega))
              have hwm : H.wm d k = clipF (H.wrm d k + heatF (H.ps.getD k 0) (H.amt k) 1200) := rfl
              have HCl : Hid (∀ W, Calls Try.prog 116 #[.int .i64 (H.wrm d k + heatF (H.ps.getD k 0) (H.amt k) 1200)] W fun e w' => e = .returned (.int .i64 (H.wm d k)) ∧ W = w') := Lib.hid (fun W => by rw [hwm]; exact l16Clip_any _ W)
              have HYA := Lib.hid (H.lA_yes HCM.out hkn)
              have HYW := Lib.hid (H.lW_yes HCM.out hkn)
              have hub : (d.getD S 0 == -1000) = false := by rw [beq_eq_false_iff_ne]; exact hu2
              have HRS : Hid (H.rdy d E (k + 1) = H.rdy d E k) := Lib.hid (by rw [H.rdy_succ]; unfold Hx.bad; rw [hkn]; simp)
              clear hkn ham hlc hwm hv0 HCM HX v1 v2 htm
              have hlw : (H.lW d E k).length ≤ k := by have := HLN.out; omega
              generalize H.lA d E k = la at *
              generalize H.lW d E k = lw at *
              generalize hD : divU (l * c) (H.amt k) = D at *
              generalize H.tm k = τ at *
              generalize H.wrm d k = z at *
              generalize H.wm d k = wv at *
              generalize heatF (H.ps.getD k 0) (H.amt k) 1200 = ht at *
              generalize H.amt k = am at *
              generalize H.rs.getD k 0 = rock at *
              generalize H.ps.getD k 0 = pw at *
              generalize d.getD S 0 = x0 at *
              have w2 : IntKind.i64.wrap (z + ht) = z + ht := IntWalk.i64_in _ (by omega)
              clear hD l1 l2 D1 D2
              go_wp2_with (go_at_call 89; refine (HA.out _).mono ?_; rintro e w' ⟨rfl, rfl⟩)
              have K1 := fun L : Later w5 => L.cell p1
              have KD := fun L : Later w5 => L.cell c5
              have KT := fun L : Later w5 => L.cell hc4
              have KR := fun L : Later w5 => L.cell hc2
              refine wp_region_later (by kernel_rfl) (by kernel_rfl) ?_
              repeat (go_big_quiet_step ((first | (go_at_call 115; first | (with_reducible exact later_b (HTm.out _)) | (with_reducible exact later_d (HTm.out _)) | (with_reducible exact later_s (HTm.out _))) | (go_at_call 114; first | (with_reducible exact later_b (HMi.out _)) | (with_reducible exact later_d (HMi.out _)) | (with_reducible exact later_s (HMi.out _))) | (go_at_call 113; first | (with_reducible exact later_b (HMw.out _)) | (with_reducible exact later_d (HMw.out _)) | (with_reducible exact later_s (HMw.out _))))))
              refine wpQuiet_nil ?_
              intro _ hw'
              obtain ⟨LL, hw''⟩ := hw'
              subst hw''
              clear K1 KD KT KR
              have c6 := cell_later LL.below hc3
              have HT6 := Lib.hid (hT5.out.later LL.below)
              have hb6 := hb5.trans (LL.below.mono hb5.size)
              generalize LL.world = w6 at *
              have hsz6 : wj.heap.size ≤ w6.heap.size := hb6.size
              have hcb : (ad3.add k).block < wj.heap.size := by rw [block_add]; omega
              go_wp2_with (at_builtin; refine wpList_append_own_at _ rfl _ _ 25 rfl wj.heap.size 2 i0 (.int .i64 0) 1 8 Try.underlying25 HF.out.1 HF.out.2.1 HF.out.2.2.1 HF.out.2.2.2 rfl (by decide) _ _ _ rfl (HT6.out.later ((Below.refl _ _).alloc (Nat.le_refl _) _)).l ⟨w6.heap.size, 0, none⟩ 1 1 [.int .i64 am] rfl rfl (cell_one_new _ _ _) (by intro u hu; simp at hu; subst hu; rfl) (le_max (by omega)) (by omega) (by simp; omega) ?_; intro av w7 ah ag an aa; obtain ⟨TL, ZL⟩ := Two.leftA (HT6.out.later ((Below.refl _ _).alloc (Nat.le_refl _) _)) (by simp; omega) ah ag aa; have hb7 := (hb6.alloc hb6.size _).trans ZL; have HT7 := Lib.hid TL; have c7 := ((((Below.refl wj.heap.size w6).alloc hsz6 _).trans ZL).cell hcb).trans c6; have hsz7 : wj.heap.size ≤ w7.heap.size := hb7.size; clear ah ag an aa TL ZL)
              go_wp2_with (first | (go_at_call 117; refine (HHt.out _).mono ?_; rintro e w' ⟨rfl, rfl⟩) | (go_at_call 116; refine (HCl.out _).mono ?_; rintro e w' ⟨rfl, rfl⟩) | (at_builtin; refine wpList_append_own_at _ rfl _ _ 25 rfl wj.heap.size 2 i0 (.int .i64 0) 1 8 Try.underlying25 HF.out.1 HF.out.2.1 HF.out.2.2.1 HF.out.2.2.2 rfl (by decide) _ _ _ rfl (HT7.out.later ((Below.refl _ _).alloc (Nat.le_refl _) _)).r ⟨w7.heap.size, 0, none⟩ 1 1 [.int .i64 wv] rfl rfl (cell_one_new _ _ _) (by intro u hu; simp at hu; subst hu; rfl) (le_max (by omega)) (by omega) (by simp; omega) ?_; intro av2 aw2 ah2 ag2 an2 aa2))
              obtain ⟨TR, ZR⟩ := Two.rightA (HT7.out.later ((Below.refl _ _).alloc (Nat.le_refl _) _)) (by simp; omega) ah2 ag2 aa2
              have hb8 := (hb7.alloc hb7.size _).trans ZR
              clear ah2 ag2 an2 aa2 ZR
              go_wp2
              go_roundw
              case rel => exact ⟨k + 1, by omega, by go_num, by rw [HRS.out], hb8, by rw [HYA.out, HYW.out]; exact TR⟩
              case measure => simp [intOf]; omega
            · obtain rfl : k = H.xs.length := by omega
              obtain ⟨b1, b2⟩ := HO.out.lists (d := d) (j := j) H.xs.length (Nat.le_refl _)
              have hbk := hb
              cases hrd : H.rdy d j H.xs.length
              · have HG : Hid (H.hit d j = false) := Lib.hid (by unfold Hx.hit; rw [H.into_no hrd]; simp)
                clear HLN HT b1 b2 hrd
                generalize H.lA d j H.xs.length = la at *
                generalize H.lW d j H.xs.length = lw at *
                go_wp2
                go_roundw
                case rel =>
                  refine ⟨j + 1, by omega, by go_num, .inl ⟨rfl, fun j' hj' => ?_, hbw, HOw.out⟩⟩
                  by_cases e : j' = j
                  · subst e; exact HG.out
                  · exact HNO.out j' (by omega)
                case measure => simp [intOf]; omega
              by_cases h0 : (H.lA d j H.xs.length).length = 0
              · have HG : Hid (H.hit d j = false) := Lib.hid (by unfold Hx.hit; rw [H.into_none h0]; simp)
                clear HLN HT b1 b2 hrd
                generalize H.lA d j H.xs.length = la at *
                generalize H.lW d j H.xs.length = lw at *
                obtain rfl := List.eq_nil_of_length_eq_zero h0
                go_wp2
                go_roundw
                case rel =>
                  refine ⟨j + 1, by omega, by go_num, .inl ⟨rfl, fun j' hj' => ?_, hbw, HOw.out⟩⟩
                  by_cases e : j' = j
                  · subst e; exact HG.out
                  · exact HNO.out j' (by omega)
                case measure => simp [intOf]; omega
              have HRR := Lib.hid (H.into_some hrd (Nat.pos_of_ne_zero h0))
              have HM : Hid (Calls Try.prog 118 #[.slice AU (H.lA d j H.xs.length).length cu, .slice AW (H.lW d j H.xs.length).length cw] wr fun e w' => e = .returned (.int .i64 (mixTF (H.lA d j H.xs.length) (H.lW d j H.xs.length))) ∧ Below wr.heap.size wr w') := Lib.hid (by
                have h := l16Mix_any AU AW cu cw (H.lA d j H.xs.length).length (H.lA d j H.xs.length) (H.lW d j H.xs.length) wr.heap.size wr (by omega) (by omega) rfl HLN.out.symm HT.out.l.ints HT.out.r.ints b1 b2
                rw [← HLN.out]
                exact h.mono (by rintro e _ ⟨rfl, n, rfl⟩; exact ⟨rfl, below_drewN (Below.refl _ _) n⟩))
              obtain ⟨z1, z2⟩ := HTn.out.next HO.out hjl HNO.out HU.out HRR.out
              have HZ := Lib.hid z2
              have h0i : (0 : Int) < ((H.lA d j H.xs.length).length : Int) := by omega
              have hcj := cell_later hb hco
              clear HLN HT b1 b2 hrd z2 HRR
              generalize mixTF (H.lA d j H.xs.length) (H.lW d j H.xs.length) = v at *
              generalize H.lA d j H.xs.length = la at *
              generalize H.lW d j H.xs.length = lw at *
              go_wp2_with fail
              refine HM.out.mono ?_
              rintro e w9 ⟨rfl, hb9⟩
              have hbw9 : Below w.heap.size w w9 := hbw.trans (hb9.mono hbw.size)
              have HO9 := Lib.hid (row_later HOw.out hb9)
              have hco9 := cell_later hb9 hcj
              have hfz9 : w9.frozen? ⟨g, j, none⟩ = false := World.ownsRow.frozenAt HO9.out j
              go_wp2
              go_roundw
              case rel => exact ⟨j + 1, by omega, by go_num, .inr ⟨rfl, z1, _, HZ.out, fit_set ⟨hbw9, HO9.out⟩ hg1 j v⟩⟩
              case measure => simp [intOf]; omega
end Go.Proofs.Ytlgagnbnjfneaaa
