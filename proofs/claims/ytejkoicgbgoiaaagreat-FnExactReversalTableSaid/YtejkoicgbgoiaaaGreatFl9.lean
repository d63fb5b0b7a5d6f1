/- Proved here: the parts NetM, Prs, OwnS, Tail, Push, Root, Step of the row's proof, joined by a program. Conditions: as each part says. -/
import Derived.Test.YtejkoicgbgoiaaaGreatFl8
import Derived.Deep.RegionHeld3
import Derived.BigQuiet
/- Networks: the meshes, by the program and by the reference. Conditions: the facts on memory and on lengths that each theorem names. -/
namespace Go.Proofs.YtejkoicgbgoiaaaGreat
open Go.RowKit Go.Maps
open Pl
/-- The mesh that an airway outside the forest closes. -/
def meshOf (N : Nat) (xs : List Aw) (k : Nat) : List Int := ((k : Int) + 1) :: (pathF N (edsA xs (forest N xs)) (xs.getD k aNone).t (xs.getD k aNone).f).1
def meshL (N : Nat) (xs : List Aw) : Nat → List (List Int)
  | 0 => []
  | k + 1 => if (forest N xs).contains (k : Int) then meshL N xs k else meshL N xs k ++ [meshOf N xs k]
def meshesF (N : Nat) (xs : List Aw) : List (List Int) := meshL N xs xs.length
theorem meshL_length (N : Nat) (xs : List Aw) : ∀ k, (meshL N xs k).length ≤ k
  | 0 => Nat.le_refl _
  | k + 1 => by have := meshL_length N xs k; unfold meshL; split; omega; simp; omega
theorem pathF_len {N : Nat} {G : List Ed} {a to : Int} : (pathF N G a to).1.length ≤ N := by
  unfold pathF
  split
  · have h := pathF_length_le G (dst G to N) (dst G to N a).toNat a
    have := dst_or G to N a
    dsimp only
    omega
  · simp
theorem walkF_in {G : List Ed} {d : Int → Int} : ∀ (s : Nat) (a x : Int), x ∈ walkF G d s a → ∃ i, i < G.length ∧ (x = (G.getD i eNone).k + 1 ∨ x = -(G.getD i eNone).k - 1)
  | 0, a, x, h => by simp [walkF] at h
  | s + 1, a, x, h => by
    unfold walkF at h
    split at h
    · rename_i e he
      rcases List.mem_cons.1 h with rfl | h
      · obtain ⟨i, hi, hie⟩ := getD_of_mem eNone (List.mem_of_find?_eq_some he)
        refine ⟨i, hi, ?_⟩
        rw [hie]
        unfold sgn
        split
        · exact .inl rfl
        · exact .inr rfl
      · exact walkF_in s _ x h
    · simp at h
theorem walk_entry {nx p : Nat} {x : Int} (hp : p < nx) (h : x = (p : Int) + 1 ∨ x = -(p : Int) - 1) : x ≠ 0 ∧ ixI x < nx ∧ x.natAbs ≤ nx := by
  unfold ixI
  rcases h with rfl | rfl
  · rw [if_pos (by omega)]; omega
  · rw [if_neg (by omega)]; omega
theorem meshOf_ok {N : Nat} {xs : List Aw} {k : Nat} (hN : N ≤ 16) (hk : k < xs.length) : WalkOk xs.length (meshOf N xs k) ∧ 0 < (meshOf N xs k).length ∧ (meshOf N xs k).length ≤ 17 := by
  have hl := pathF_len (N := N) (G := edsA xs (forest N xs)) (a := (xs.getD k aNone).t) (to := (xs.getD k aNone).f)
  refine ⟨fun j hj => ?_, by unfold meshOf; rw [List.length_cons]; omega, by unfold meshOf; rw [List.length_cons]; omega⟩
  have hm : (meshOf N xs k).getD j 0 ∈ meshOf N xs k := mem_getD hj
  generalize (meshOf N xs k).getD j 0 = x at hm
  unfold meshOf at hm
  rcases List.mem_cons.1 hm with rfl | hm
  · exact walk_entry hk (.inl rfl)
  · unfold pathF at hm
    split at hm
    · obtain ⟨i, hi, he⟩ := walkF_in _ _ _ hm
      rw [edsA_length] at hi
      rw [edsA_get hi] at he
      obtain ⟨p, hp, hpl⟩ := treeL_ok N xs xs.length i hi
      have hp : (forest N xs).getD i 0 = p := hp
      rw [hp] at he
      exact walk_entry hpl he
    · simp at hm
theorem meshL_ok {N : Nat} {xs : List Aw} (hN : N ≤ 16) : ∀ k, k ≤ xs.length → ∀ j, j < (meshL N xs k).length → WalkOk xs.length ((meshL N xs k).getD j []) ∧ 0 < ((meshL N xs k).getD j []).length ∧ ((meshL N xs k).getD j []).length ≤ 17
  | 0, _, j, h => by simp [meshL] at h
  | k + 1, hk, j, h => by
    have ih := meshL_ok (N := N) (xs := xs) hN k (by omega)
    unfold meshL at h ⊢
    split at h
    · rename_i hc
      rw [if_pos hc]
      exact ih j h
    · rename_i hc
      rw [if_neg hc]
      by_cases e : j < (meshL N xs k).length
      · rw [getD_app e]; exact ih j e
      · have e : j = (meshL N xs k).length := by simp at h; omega
        subst e
        rw [getD_last]
        exact meshOf_ok hN (by omega)
theorem meshes_ok {N : Nat} {xs : List Aw} (hN : N ≤ 16) (hx : xs.length ≤ 24) : MeshOk xs.length (meshesF N xs) :=
  ⟨by have := meshL_length N xs xs.length; unfold meshesF; omega, fun k hk => by
    obtain ⟨h1, h2, h3⟩ := meshL_ok hN xs.length (Nat.le_refl _) k hk
    exact ⟨h1, h2, by unfold meshesF; omega⟩⟩
theorem infoN : (Tryz.prog.info? 25).map (fun i => (i.zero, i.size, i.bytes)) = some (some (.slice none 0 0), 1, 24) := by kernel_rfl
theorem Ints.grown {B B' : Nat} {w w' : World} {A : Option Addr} {xs : List Int} {row : Option Nat} (h : Ints B w A xs) (hg : w.grownBy w' row) (hne : ∀ ad, A = some ad → some ad.block ≠ row) (hB : B ≤ B') : Ints B' w' A xs := by
  intro hn
  obtain ⟨ad, e, hlt, hc⟩ := h hn
  exact ⟨ad, e, by omega, fun k hk => hg.cell (hc k hk) (by rw [block_add]; exact hne ad e)⟩
/-- A row of slices of numbers that the call owns; each of them lies apart from the row. -/
structure OwnN (base : Nat) (w : World) (v : Value) (xss : List (List Int)) (vs : List Value) : Prop where
  row : w.ownsRow base 25 1 v xss.length vs
  el : ∀ k, k < xss.length → ∃ A' c, vs[k]? = some (.slice A' (xss.getD k []).length c) ∧ Ints w.heap.size w A' (xss.getD k []) ∧ ∀ ad, A' = some ad → base ≤ ad.block ∧ ad.block < w.heap.size ∧ v.ownBlock ≠ some ad.block
theorem OwnN.nil_ (base : Nat) (w : World) : OwnN base w (.slice none 0 0) [] [] := ⟨World.ownsRow_nil _ _ _ _, fun k h => by simp at h⟩
theorem OwnN.empty {base : Nat} {w : World} (h : base ≤ w.heap.size) : OwnN base (w.alloc (.cells #[] 25)) (.slice (some ⟨w.heap.size, 0, none⟩) 0 0) [] [] :=
  ⟨⟨rfl, .inr ⟨w.heap.size, 0, #[], rfl, h, heap_alloc_new w _, Nat.le_refl _, by simp [maxLen], rfl, rfl⟩⟩, fun k h => by simp at h⟩
theorem OwnN.later {base : Nat} {w w' : World} {v : Value} {xss : List (List Int)} {vs : List Value} (h : OwnN base w v xss vs) (hb : Below w.heap.size w w') : OwnN base w' v xss vs := by
  refine ⟨World.ownsRow.kept h.row (Below.grownBy hb none) (by cases v.ownBlock <;> simp), fun k hk => ?_⟩
  obtain ⟨A', c, h1, h2, h3⟩ := h.el k hk
  exact ⟨A', c, h1, (h2.below hb).more hb.size, fun ad ha => by obtain ⟨g1, g2, g3⟩ := h3 ad ha; exact ⟨g1, Nat.lt_of_lt_of_le g2 hb.size, g3⟩⟩
theorem OwnN.less {b b' : Nat} {w : World} {v : Value} {xss : List (List Int)} {vs : List Value} (h : OwnN b w v xss vs) (hb : b' ≤ b) : OwnN b' w v xss vs := by
  refine ⟨⟨h.row.1, ?_⟩, fun k hk => ?_⟩
  · rcases h.row.2 with hn | ⟨g, cap, cur, rfl, h1, rest⟩
    · exact .inl hn
    · exact .inr ⟨g, cap, cur, rfl, by omega, rest⟩
  · obtain ⟨A', c, h1, h2, h3⟩ := h.el k hk
    exact ⟨A', c, h1, h2, fun ad ha => by obtain ⟨g1, g2, g3⟩ := h3 ad ha; exact ⟨by omega, g2, g3⟩⟩
/-- As a list of lists that is only read. -/
theorem OwnN.slice {base : Nat} {w : World} {v : Value} {xss : List (List Int)} {vs : List Value} (h : OwnN base w v xss vs) : ∃ A c, v = .slice A xss.length c ∧ NestL base w.heap.size w A xss := by
  have hr := h.row
  rcases hr.2 with ⟨rfl, h0⟩ | ⟨g, cap, cur, rfl, hb, hg, _⟩
  · obtain rfl := List.eq_nil_of_length_eq_zero h0
    exact ⟨none, 0, rfl, fun hn => by simp at hn⟩
  · refine ⟨some ⟨g, 0, none⟩, cap, rfl, fun _ => ⟨g, 0, rfl, hb, (Array.getElem?_eq_some_iff.1 hg).1, fun k hk => ?_⟩⟩
    obtain ⟨A', c, h1, h2, h3⟩ := h.el k hk
    rw [getD_il hk] at h1 h2
    refine ⟨A', c, ?_, h2, fun ad ha => (h3 ad ha).1⟩
    rw [Nat.zero_add, World.ownsRow.cellAt hr k (by omega)]
    exact h1
theorem OwnN.push {base b5 : Nat} {w w1 : World} {u av : Value} {A5 : Option Addr} {c5 n5 : Nat} {xss : List (List Int)} {xs : List Int} {vs : List Value} {T : TypeId} (h : OwnN base w u xss vs) (h5 : Own b5 w (.slice A5 n5 c5) xs) (hb : base ≤ b5) (hap : ∀ g, u.ownBlock = some g → g < b5) (hB : base ≤ w.heap.size)
    (ah : w1.ownsRow base 25 1 av (xss.length + 1) (vs ++ [.slice A5 n5 c5])) (ag : (w.alloc (.cells #[.slice A5 n5 c5] T)).grownBy w1 u.ownBlock) (aa : av.ownBlock = u.ownBlock ∨ av.ownBlock = some (w.alloc (.cells #[.slice A5 n5 c5] T)).heap.size) :
    OwnN base w1 av (xss ++ [xs]) (vs ++ [.slice A5 n5 c5]) ∧ Below base w w1 := by
  have hsz : w.heap.size < w1.heap.size := by have := ag.size; simp at this; omega
  have hlen : vs.length = xss.length := by have := h.row.1; omega
  have key : ∀ {A' : Option Addr} {ys : List Int}, Ints w.heap.size w A' ys → (∀ ad, A' = some ad → ad.block < w.heap.size ∧ u.ownBlock ≠ some ad.block) → Ints w1.heap.size w1 A' ys := by
    intro A' ys hI hne
    have h1 : Ints w.heap.size (w.alloc (.cells #[.slice A5 n5 c5] T)) A' ys := hI.below ((Below.refl _ _).alloc (Nat.le_refl _) _)
    exact h1.grown ag (fun ad ha => fun e => (hne ad ha).2 e.symm) (by omega)
  have hout : ∀ {ad : Addr}, ad.block < w.heap.size → u.ownBlock ≠ some ad.block → av.ownBlock ≠ some ad.block := by
    intro ad h1 h2 e
    rcases aa with e2 | e2
    · exact h2 (e2.symm.trans e)
    · rw [e2] at e
      injection e with e
      simp at e
      omega
  refine ⟨⟨by rw [List.length_append]; exact ah, fun k hk => ?_⟩, ((Below.refl base w).alloc hB _).grown ag (by simp; omega) (fun g hg => (World.ownsRow.lt h.row g hg).1)⟩
  by_cases e : k < xss.length
  · obtain ⟨A', c, g1, g2, g3⟩ := h.el k e
    rw [getD_app e]
    refine ⟨A', c, by rw [List.getElem?_append_left (by omega)]; exact g1, key g2 (fun ad ha => (g3 ad ha).2), fun ad ha => ?_⟩
    obtain ⟨f1, f2, f3⟩ := g3 ad ha
    exact ⟨f1, by omega, hout f2 f3⟩
  · have e : k = xss.length := by simp at hk; omega
    subst e
    rw [getD_last]
    obtain ⟨A', c', he, hI, hat⟩ := h5.slice
    injection he with e1 e2 e3
    subst e1 e2 e3
    have hne : ∀ ad, A5 = some ad → ad.block < w.heap.size ∧ u.ownBlock ≠ some ad.block := fun ad ha => by
      obtain ⟨_, f2, f3⟩ := hat ad ha
      exact ⟨f3, fun e => by have := hap _ e; omega⟩
    refine ⟨A5, c5, by rw [← hlen]; simp, key hI hne, fun ad ha => ?_⟩
    obtain ⟨_, f2, f3⟩ := hat ad ha
    exact ⟨by omega, by omega, hout f3 (hne ad ha).2⟩
theorem Own.joined {base n : Nat} {w : World} {v : Value} {x : Int} {ys : List Int} (h : w.ownsRow base 2 1 v n (vals [x] ++ vals ys)) (hn : n = 1 + ys.length) : Own base w v (x :: ys) := by
  unfold Own
  subst hn
  rw [← vals_append] at h
  rw [show (x :: ys).length = 1 + ys.length by simp; omega]
  exact h
set_option maxRecDepth 100000 in
set_option maxHeartbeats 3200000 in
theorem meshes_any (N : Nat) (A : Option Addr) (cp : Nat) (xs : List Aw) (w : World) (hI : Recs encA 7 w.heap.size w A xs) (hm : mineB (N : Int) xs = true) :
    Calls Tryz.prog 93 #[.agg #[.int .i64 (N : Int), .slice A xs.length cp]] w fun e w' => ∃ v vs, e = .returned v ∧ OwnN w.heap.size w' v (meshesF N xs) vs ∧ Below w.heap.size w w' := by
  obtain ⟨⟨n1, n2⟩, nx, _⟩ := mineB_bd hm
  have HM := Lib.hid hm
  have HE := Lib.hid (fun p (hp : p < xs.length) => mine_ends hm hp)
  have hN1 : 1 ≤ N := by omega
  have hN2 : N ≤ 16 := by omega
  have hxn : xs.length ≤ 24 := by omega
  obtain ⟨i0, hi, hz0, hz1, hz2⟩ := info_parts infoI
  have HF := Lib.hid (And.intro hi (And.intro hz0 (And.intro hz1 hz2)))
  obtain ⟨i1, hj, hy0, hy1, hy2⟩ := info_parts infoN
  have HG := Lib.hid (And.intro hj (And.intro hy0 (And.intro hy1 hy2)))
  have be0 : Below w.heap.size w (w.alloc (.cells #[.int .i64 (N : Int), .slice A xs.length cp] 33)) := by go_grown
  have k0 : (w.alloc (.cells #[.int .i64 (N : Int), .slice A xs.length cp] 33)).cell? ⟨w.heap.size, 0, none⟩ = some (.int .i64 (N : Int)) := by go_simp
  have k1 : (w.alloc (.cells #[.int .i64 (N : Int), .slice A xs.length cp] 33)).cell? ⟨w.heap.size, 1, none⟩ = some (.slice A xs.length cp) := by go_simp
  have J0 := Lib.hid ((hI.below be0).more be0.size)
  clear hI hm n1 n2 nx hi hz0 hz1 hz2 hj hy0 hy1 hy2
  go_enter Tryz.func93, Tryz.ntmps93
  go_wp2_with fail
  generalize hw0 : (w.alloc (.cells #[.int .i64 (N : Int), .slice A xs.length cp] 33)) = w0 at *
  clear hw0
  refine (tree_any N A cp xs w0 J0.out HM.out).mono ?_
  rintro e w1 ⟨u1, rfl, ho1, hb1⟩
  obtain ⟨AT, ct, rfl, hti, -⟩ := ho1.slice
  have HTI := Lib.hid hti
  have HTL : Hid ((forest N xs).length ≤ xs.length) := Lib.hid (treeL_length N xs xs.length)
  have htl : (forest N xs).length ≤ 24 := by have := HTL.out; omega
  have HOK : Hid (IdxOk xs.length (forest N xs)) := Lib.hid (treeL_ok N xs xs.length)
  have K0 := Lib.hid (cell_later hb1 k0)
  have K1 := Lib.hid (cell_later hb1 k1)
  have J1 := Lib.hid ((J0.out.below hb1).more hb1.size)
  have hz01 := hb1.size
  have HB1 := Lib.hid (be0.trans (hb1.mono be0.size))
  have k0' := K0.out
  have k1' := K1.out
  clear ho1 hti k0 k1
  go_wp2_with fail
  clear k0' k1'
  go_loopw [4, 14] (fun u kk wr => ∃ (k : Nat) (vs : List Value), k ≤ xs.length ∧ kk = .int .i64 k ∧ Below w1.heap.size w1 wr ∧ OwnN w1.heap.size wr u (meshL N xs k) vs) (fun _ kk _ => xs.length - (intOf kk).toNat)
  case atStart => exact ⟨0, [], Nat.zero_le _, rfl, Below.refl _ _, OwnN.nil_ _ _⟩
  case round =>
    obtain ⟨k, vs, hk, rfl, hb, ho⟩ := hrel
    have m0 := cell_later hb K0.out
    have m1 := cell_later hb K1.out
    have hml := meshL_length N xs k
    obtain ⟨AV, cv, hv, -⟩ := ho.slice
    by_cases hlt : k < xs.length
    · obtain ⟨F, T, hF, hT, hFN, hTN, _⟩ := HE.out k hlt
      have hSM : meshL N xs (k + 1) = if (forest N xs).contains (k : Int) then meshL N xs k else meshL N xs k ++ [((k : Int) + 1) :: (pathF N (edsA xs (forest N xs)) (T : Int) (F : Int)).1] := by
        have e : meshL N xs (k + 1) = if (forest N xs).contains (k : Int) then meshL N xs k else meshL N xs k ++ [((k : Int) + 1) :: (pathF N (edsA xs (forest N xs)) (xs.getD k aNone).t (xs.getD k aNone).f).1] := rfl
        rw [e, hF, hT]
      have HSM := Lib.hid hSM
      obtain ⟨⟨s, f, t, l, c, r, q⟩, hax⟩ : ∃ x, xs.getD k aNone = x := ⟨_, rfl⟩
      obtain ⟨b, o, hA, hab, c0, c1, c2, c3, c4, c5, c6⟩ := (J1.out.below hb).cells7 hlt hax
      subst hA
      rw [hax] at hF hT
      have hF : f = (F : Int) := hF
      have hT : t = (T : Int) := hT
      subst hF hT
      have i0' : (0 : Int) ≤ (k : Int) := by omega
      have i1' : (k : Int) < xs.length := by omega
      have hsz := hb.size
      have hba : Below wr.heap.size wr (wr.alloc (.cells #[.string s, .int .i64 (F : Int), .int .i64 (T : Int), .int .i64 l, .int .i64 c, .int .i64 r, .int .i64 q] 99)) := (Below.refl _ _).alloc (Nat.le_refl _) _
      have a1 : ((wr.alloc (.cells #[.string s, .int .i64 (F : Int), .int .i64 (T : Int), .int .i64 l, .int .i64 c, .int .i64 r, .int .i64 q] 99))).cell? ⟨wr.heap.size, 1, none⟩ = some (.int .i64 (F : Int)) := by go_simp
      have a2 : ((wr.alloc (.cells #[.string s, .int .i64 (F : Int), .int .i64 (T : Int), .int .i64 l, .int .i64 c, .int .i64 r, .int .i64 q] 99))).cell? ⟨wr.heap.size, 2, none⟩ = some (.int .i64 (T : Int)) := by go_simp
      have HO := Lib.hid ho
      obtain ⟨cb, hcb⟩ : ∃ cb, (forest N xs).contains (k : Int) = cb := ⟨_, rfl⟩
      rw [hcb] at HSM
      have HCC := Lib.hid (fun W hI => eqb (Contains_any AT ct (forest N xs) (k : Int) w1.heap.size W (by omega) hI) hcb)
      subst hv
      clear ho hax hSM hcb
      go_wp2_with fail
      have m0' := cell_later hba m0
      have m1' := cell_later hba m1
      have hbw : Below w1.heap.size w1 (wr.alloc (.cells #[.string s, .int .i64 (F : Int), .int .i64 (T : Int), .int .i64 l, .int .i64 c, .int .i64 r, .int .i64 q] 99)) := hb.trans (hba.mono hsz)
      have HO2 := Lib.hid (HO.out.later hba)
      have hzwa : wr.heap.size ≤ ((wr.alloc (.cells #[.string s, .int .i64 (F : Int), .int .i64 (T : Int), .int .i64 l, .int .i64 c, .int .i64 r, .int .i64 q] 99))).heap.size := hba.size
      generalize (wr.alloc (.cells #[.string s, .int .i64 (F : Int), .int .i64 (T : Int), .int .i64 l, .int .i64 c, .int .i64 r, .int .i64 q] 99)) = wa at *
      clear c0 c1 c2 c3 c4 c5 c6 m0 m1 hba
      refine (HCC.out _ (HTI.out.below hbw)).mono ?_
      rintro e w2 ⟨rfl, rfl⟩
      cases cb
      · have HS4 : Hid (meshL N xs (k + 1) = meshL N xs k ++ [((k : Int) + 1) :: (pathF N (edsA xs (forest N xs)) (T : Int) (F : Int)).1]) := Lib.hid (by rw [HSM.out]; rfl)
        have hpl := pathF_len (N := N) (G := edsA xs (forest N xs)) (a := (T : Int)) (to := (F : Int))
        have HPA := Lib.hid (path_any N (some ⟨b, o, none⟩) cp xs T F AT ct (forest N xs) wa ((J1.out.below hbw).more hbw.size) HM.out ((HTI.out.below hbw).more hbw.size) HOK.out htl hTN hFN)
        clear HSM HCC
        generalize (pathF N (edsA xs (forest N xs)) (T : Int) (F : Int)).2 = pb at *
        generalize (pathF N (edsA xs (forest N xs)) (T : Int) (F : Int)).1 = ps at *
        generalize meshL N xs k = M at *
        go_wp2_with fail
        refine HPA.out.mono ?_
        rintro e w3 ⟨u3, rfl, ho3, hb3⟩
        have hbw3 := hbw.trans (hb3.mono hbw.size)
        have HN3 := Lib.hid (HO2.out.later hb3)
        have hsz3 := hb3.size
        have hap : ∀ g, (Value.slice AV M.length cv).ownBlock = some g → g < w3.heap.size := fun g hg => (World.ownsRow.lt HN3.out.row g hg).2
        have HAP := Lib.hid hap
        clear HPA m0' m1' a1 a2 HO HO2 hap
        rcases ho3.form with ⟨rfl, hnil⟩ | ⟨g3, c3, rfl, hg3, hlt3⟩
        · subst hnil
          have hb5 : Below w3.heap.size w3 (w3.alloc (.cells #[.int .i64 ((k : Int) + 1)] 2)) := (Below.refl _ w3).alloc (Nat.le_refl _) _
          have HO5 := Lib.hid (Own.one ((k : Int) + 1) (Nat.le_refl w3.heap.size))
          have HN5 := Lib.hid (HN3.out.later hb5)
          have hsz5 : w3.heap.size ≤ (w3.alloc (.cells #[.int .i64 ((k : Int) + 1)] 2)).heap.size := hb5.size
          have HQ : Hid (∀ j u, [Value.slice (some ⟨w3.heap.size, 0, none⟩) 1 1][j]? = some u → ((w3.alloc (.cells #[.int .i64 ((k : Int) + 1)] 2)).alloc (.cells #[.slice (some ⟨w3.heap.size, 0, none⟩) 1 1] 25)).cell? ((⟨w3.heap.size + 1, 0, none⟩ : Addr).add j) = some u) := Lib.hid (by
            have h := cell_one_new (w3.alloc (.cells #[.int .i64 ((k : Int) + 1)] 2)) (.slice (some ⟨w3.heap.size, 0, none⟩) 1 1) 25
            rw [World.size_alloc] at h
            exact h)
          clear ho3
          go_wp2_with (first | (at_builtin; refine wpList_append_own_at _ rfl _ _ 48 rfl w1.heap.size 25 i1 (.slice none 0 0) 1 24 Tryz.underlying48 HG.out.1 HG.out.2.1 HG.out.2.2.1 HG.out.2.2.2 rfl (by decide) _ _ _ rfl (World.ownsRow.alloc HN5.out.row _) ⟨w3.heap.size + 1, 0, none⟩ 1 1 [_] rfl rfl HQ.out (by intro u hu; simp at hu; subst hu; rfl) (le_max (by omega)) (by omega) (by simp; omega) ?_; intro av w6 ah ag an aa) | fail)
          obtain ⟨hN6, hb6⟩ := OwnN.push HN5.out HO5.out (by omega) HAP.out (by omega) ah ag aa
          have HN6 := Lib.hid hN6
          have hbw6 : Below w1.heap.size w1 w6 := (hbw3.trans (hb5.mono hbw3.size)).trans hb6
          clear ah ag an aa hN6 hb6
          go_wp2
          go_roundw
          case rel => exact ⟨k + 1, _, by omega, by go_num, hbw6, by rw [HS4.out]; exact HN6.out⟩
          case measure => simp [intOf]; omega
        · have HNEW : Hid (∀ j u, (vals ps)[j]? = some u → (w3.alloc (.cells #[.int .i64 ((k : Int) + 1)] 2)).cell? ((⟨g3, 0, none⟩ : Addr).add j) = some u) := Lib.hid (fun j u hj => Lib.cell?_alloc_some _ (World.ownsRow.cells ho3 rfl j u hj))
          have HONE : Hid (∀ u ∈ vals ps, u.oneCell' = true) := Lib.hid (by
            intro u hu
            unfold vals at hu
            obtain ⟨x, _, rfl⟩ := List.mem_map.1 hu
            rfl)
          clear ho3
          go_wp2_with (first | (at_builtin; refine wpList_append_own_at _ rfl _ _ 48 rfl w1.heap.size 25 i1 (.slice none 0 0) 1 24 Tryz.underlying48 HG.out.1 HG.out.2.1 HG.out.2.2.1 HG.out.2.2.2 rfl (by decide) _ _ _ rfl (World.ownsRow.alloc HN5.out.row _) ⟨w5.heap.size, 0, none⟩ 1 1 [_] rfl rfl (cell_one_new _ _ _) (by intro u hu; simp at hu; subst hu; rfl) (le_max (by omega)) (by omega) (by simp; omega) ?_; intro av w6 ah ag an aa) | (at_builtin; refine wpList_append_own _ rfl _ _ 25 rfl w3.heap.size 2 i0 (.int .i64 0) 1 8 Tryz.underlying25 HF.out.1 HF.out.2.1 HF.out.2.2.1 HF.out.2.2.2 rfl (by decide) _ 1 (vals [(k : Int) + 1]) rfl (Own.one ((k : Int) + 1) (Nat.le_refl w3.heap.size)) ⟨g3, 0, none⟩ ps.length c3 (vals ps) rfl (by rw [vals_length, Nat.mul_one]) HNEW.out HONE.out (le_max (by omega)) (by omega) (by simp) ?_; intro v5 w5 hown5 hgrow5 hnil5; have ho5 : Own w3.heap.size w5 v5 (((k : Int) + 1) :: ps) := Own.joined hown5 rfl; have hb5 : Below w3.heap.size w3 w5 := ((Below.refl _ w3).alloc (Nat.le_refl _) _).grown hgrow5 (by simp) (fun j hj => by cases hj; exact Nat.le_refl _); obtain ⟨A5, c5, rfl, -, -⟩ := ho5.slice; have HO5 := Lib.hid ho5; have HN5 := Lib.hid (HN3.out.later hb5); have hsz5 : w3.heap.size ≤ w5.heap.size := hb5.size; clear hown5 hgrow5 hnil5 ho5) | fail)
          obtain ⟨hN6, hb6⟩ := OwnN.push HN5.out HO5.out (by omega) HAP.out (by omega) ah ag aa
          have HN6 := Lib.hid hN6
          have hbw6 : Below w1.heap.size w1 w6 := (hbw3.trans (hb5.mono hbw3.size)).trans hb6
          clear ah ag an aa hN6 hb6
          go_wp2
          go_roundw
          case rel => exact ⟨k + 1, _, by omega, by go_num, hbw6, by rw [HS4.out]; exact HN6.out⟩
          case measure => simp [intOf]; omega
      · have HS4 : Hid (meshL N xs (k + 1) = meshL N xs k) := Lib.hid (by rw [HSM.out]; rfl)
        clear HSM
        go_wp2_with fail
        go_roundw
        case rel => exact ⟨k + 1, _, by omega, by go_num, hbw, by rw [HS4.out]; exact HO2.out⟩
        case measure => simp [intOf]; omega
    · obtain rfl : k = xs.length := by omega
      have HO := Lib.hid ho
      clear ho
      go_wp2
      go_ret
      exact ⟨_, _, rfl, HO.out.less (by have := HB1.out.size; omega), HB1.out.trans (hb.mono HB1.out.size)⟩
set_option maxRecDepth 100000 in
set_option maxHeartbeats 3200000 in
theorem l04Meshes_any (bm om : Nat) (N : Nat) (A : Option Addr) (cp : Nat) (xs : List Aw) (w : World) (hI : Recs encA 7 w.heap.size w A xs) (hm : mineB (N : Int) xs = true)
    (m0 : w.cell? ⟨bm, om, none⟩ = some (.int .i64 (N : Int))) (mm : w.cell? ⟨bm, om + 1, none⟩ = some (.slice A xs.length cp)) :
    Calls Tryz.prog 109 #[.pointer (some ⟨bm, om, none⟩)] w fun e w' => ∃ v vs, e = .returned v ∧ OwnN w.heap.size w' v (meshesF N xs) vs ∧ Below w.heap.size w w' := by
  obtain ⟨⟨n1, n2⟩, nx, _⟩ := mineB_bd hm
  have HM := Lib.hid hm
  have HE := Lib.hid (fun p (hp : p < xs.length) => mine_ends hm hp)
  have hN1 : 1 ≤ N := by omega
  have hN2 : N ≤ 16 := by omega
  have hxn : xs.length ≤ 24 := by omega
  obtain ⟨i0, hi, hz0, hz1, hz2⟩ := info_parts infoI
  have HF := Lib.hid (And.intro hi (And.intro hz0 (And.intro hz1 hz2)))
  obtain ⟨i1, hj, hy0, hy1, hy2⟩ := info_parts infoN
  have HG := Lib.hid (And.intro hj (And.intro hy0 (And.intro hy1 hy2)))
  have J0 := Lib.hid hI
  have HT0 := Lib.hid (l04Tree_any bm om N A cp xs w hI hm m0 mm)
  clear hI hm n1 n2 nx hi hz0 hz1 hz2 hj hy0 hy1 hy2
  have hbm : bm < w.heap.size := World.block_lt_of_cell? _ _ m0
  go_enter Tryz.func109, Tryz.ntmps109
  go_wp2_with fail
  refine HT0.out.mono ?_
  rintro e w1 ⟨u1, rfl, ho1, hb1⟩
  obtain ⟨AT, ct, rfl, hti, -⟩ := ho1.slice
  have HTI := Lib.hid hti
  have HTL : Hid ((forest N xs).length ≤ xs.length) := Lib.hid (treeL_length N xs xs.length)
  have htl : (forest N xs).length ≤ 24 := by have := HTL.out; omega
  have HOK : Hid (IdxOk xs.length (forest N xs)) := Lib.hid (treeL_ok N xs xs.length)
  have K0 := Lib.hid (cell_later hb1 m0)
  have K1 := Lib.hid (cell_later hb1 mm)
  have J1 := Lib.hid ((J0.out.below hb1).more hb1.size)
  have hz01 := hb1.size
  have HB1 := Lib.hid hb1
  clear ho1 hti m0 mm hb1
  go_wp2_with fail
  go_loopw [4, 5] (fun u kk wr => ∃ (k : Nat) (vs : List Value), k ≤ xs.length ∧ kk = .int .i64 k ∧ Below w1.heap.size w1 wr ∧ OwnN w1.heap.size wr u (meshL N xs k) vs) (fun _ kk _ => xs.length - (intOf kk).toNat)
  case atStart => exact ⟨0, [], Nat.zero_le _, rfl, (Below.refl _ _).alloc (Nat.le_refl _) _, OwnN.empty (Nat.le_refl _)⟩
  case round =>
    obtain ⟨k, vs, hk, rfl, hb, ho⟩ := hrel
    have m0 := cell_later hb K0.out
    have m1 := cell_later hb K1.out
    have hml := meshL_length N xs k
    obtain ⟨AV, cv, hv, -⟩ := ho.slice
    by_cases hlt : k < xs.length
    · obtain ⟨F, T, hF, hT, hFN, hTN, _⟩ := HE.out k hlt
      have hSM : meshL N xs (k + 1) = if (forest N xs).contains (k : Int) then meshL N xs k else meshL N xs k ++ [((k : Int) + 1) :: (pathF N (edsA xs (forest N xs)) (T : Int) (F : Int)).1] := by
        have e : meshL N xs (k + 1) = if (forest N xs).contains (k : Int) then meshL N xs k else meshL N xs k ++ [((k : Int) + 1) :: (pathF N (edsA xs (forest N xs)) (xs.getD k aNone).t (xs.getD k aNone).f).1] := rfl
        rw [e, hF, hT]
      have HSM := Lib.hid hSM
      obtain ⟨⟨s, f, t, l, c, r, q⟩, hax⟩ : ∃ x, xs.getD k aNone = x := ⟨_, rfl⟩
      obtain ⟨b, o, hA, hab, -, c1, c2, -⟩ := (J1.out.below hb).cells7 hlt hax
      subst hA
      rw [hax] at hF hT
      have hF : f = (F : Int) := hF
      have hT : t = (T : Int) := hT
      subst hF hT
      have i0' : (0 : Int) ≤ (k : Int) := by omega
      have i1' : (k : Int) < xs.length := by omega
      have hsz := hb.size
      have HO2 := Lib.hid ho
      obtain ⟨cb, hcb⟩ : ∃ cb, (forest N xs).contains (k : Int) = cb := ⟨_, rfl⟩
      rw [hcb] at HSM
      have HCC := Lib.hid (fun W hI => eqb (l00Has_any AT ct (forest N xs) (k : Int) w1.heap.size W (by omega) hI) hcb)
      subst hv
      clear ho hax hSM hcb
      go_wp2_with fail
      refine (HCC.out _ (HTI.out.below hb)).mono ?_
      rintro e w2 ⟨rfl, rfl⟩
      cases cb
      · have HS4 : Hid (meshL N xs (k + 1) = meshL N xs k ++ [((k : Int) + 1) :: (pathF N (edsA xs (forest N xs)) (T : Int) (F : Int)).1]) := Lib.hid (by rw [HSM.out]; rfl)
        have hpl := pathF_len (N := N) (G := edsA xs (forest N xs)) (a := (T : Int)) (to := (F : Int))
        have HPA := Lib.hid (fun (W : World) (hW : Below w1.heap.size w1 W) h0 h1 => l04Walk_any bm om N (some ⟨b, o, none⟩) cp xs AT ct (forest N xs) T F W ((J1.out.below hW).more hW.size) HM.out ((HTI.out.below hW).more hW.size) HOK.out htl hTN hFN h0 h1)
        clear HSM HCC
        generalize (pathF N (edsA xs (forest N xs)) (T : Int) (F : Int)).2 = pb at *
        generalize (pathF N (edsA xs (forest N xs)) (T : Int) (F : Int)).1 = ps at *
        generalize meshL N xs k = M at *
        go_wp2_with fail
        go_region_held3 (fun w' => (w'.cell? ⟨bm, om, none⟩ = some (.int .i64 (N : Int)) ∧ w'.cell? ⟨bm, om + 1, none⟩ = some (.slice (some ⟨b, o, none⟩) xs.length cp)) ∧ (w'.cell? ⟨b, o + k * 7 + 1, none⟩ = some (.int .i64 (F : Int)) ∧ w'.cell? ⟨b, o + k * 7 + 2, none⟩ = some (.int .i64 (T : Int))))
          (first
            | go_keep
            | exact ⟨⟨cell_later hbX m0, cell_later hbX m1⟩, cell_later hbX c1, cell_later hbX c2⟩)
          (first
            | (go_at_call 145; refine (HPA.out _ (by first | exact hb | exact hb.drew) (by assumption) (by assumption)).mono ?_; rintro e w3 ⟨u3, rfl, ho3, hb3⟩; have hbX : Below wr.heap.size wr w3 := (by first | exact hb3 | exact (Below.refl wr.heap.size wr).drew.trans (hb3.mono (Nat.le_refl _)))))
        have hbw3 := hb.trans (hbX.mono hb.size)
        have HN3 := Lib.hid (HO2.out.later hbX)
        have hsz3 := hbX.size
        have hap : ∀ g, (Value.slice AV M.length cv).ownBlock = some g → g < w3.heap.size := fun g hg => (World.ownsRow.lt HN3.out.row g hg).2
        have HAP := Lib.hid hap
        clear HPA m0 m1 c1 c2 HO2 hap
        clear hb3
        rcases ho3.form with ⟨rfl, hnil⟩ | ⟨g3, c3, rfl, hg3, hlt3⟩
        · subst hnil
          have hb5 : Below w3.heap.size w3 (w3.alloc (.cells #[.int .i64 ((k : Int) + 1)] 2)) := (Below.refl _ w3).alloc (Nat.le_refl _) _
          have HO5 := Lib.hid (Own.one ((k : Int) + 1) (Nat.le_refl w3.heap.size))
          have HN5 := Lib.hid (HN3.out.later hb5)
          have hsz5 : w3.heap.size ≤ (w3.alloc (.cells #[.int .i64 ((k : Int) + 1)] 2)).heap.size := hb5.size
          have HQ : Hid (∀ j u, [Value.slice (some ⟨w3.heap.size, 0, none⟩) 1 1][j]? = some u → ((w3.alloc (.cells #[.int .i64 ((k : Int) + 1)] 2)).alloc (.cells #[.slice (some ⟨w3.heap.size, 0, none⟩) 1 1] 25)).cell? ((⟨w3.heap.size + 1, 0, none⟩ : Addr).add j) = some u) := Lib.hid (by
            have h := cell_one_new (w3.alloc (.cells #[.int .i64 ((k : Int) + 1)] 2)) (.slice (some ⟨w3.heap.size, 0, none⟩) 1 1) 25
            rw [World.size_alloc] at h
            exact h)
          clear ho3
          go_wp2_with (first | (at_builtin; refine wpList_append_own_at _ rfl _ _ 48 rfl w1.heap.size 25 i1 (.slice none 0 0) 1 24 Tryz.underlying48 HG.out.1 HG.out.2.1 HG.out.2.2.1 HG.out.2.2.2 rfl (by decide) _ _ _ rfl (World.ownsRow.alloc HN5.out.row _) ⟨w3.heap.size + 1, 0, none⟩ 1 1 [_] rfl rfl HQ.out (by intro u hu; simp at hu; subst hu; rfl) (le_max (by omega)) (by omega) (by simp; omega) ?_; intro av w6 ah ag an aa) | fail)
          obtain ⟨hN6, hb6⟩ := OwnN.push HN5.out HO5.out (by omega) HAP.out (by omega) ah ag aa
          have HN6 := Lib.hid hN6
          have hbw6 : Below w1.heap.size w1 w6 := (hbw3.trans (hb5.mono hbw3.size)).trans hb6
          clear ah ag an aa hN6 hb6
          go_wp2
          go_roundw
          case rel => exact ⟨k + 1, _, by omega, by go_num, hbw6, by rw [HS4.out]; exact HN6.out⟩
          case measure => simp [intOf]; omega
        · have HNEW : Hid (∀ j u, (vals ps)[j]? = some u → (w3.alloc (.cells #[.int .i64 ((k : Int) + 1)] 2)).cell? ((⟨g3, 0, none⟩ : Addr).add j) = some u) := Lib.hid (fun j u hj => Lib.cell?_alloc_some _ (World.ownsRow.cells ho3 rfl j u hj))
          have HONE : Hid (∀ u ∈ vals ps, u.oneCell' = true) := Lib.hid (by
            intro u hu
            unfold vals at hu
            obtain ⟨x, _, rfl⟩ := List.mem_map.1 hu
            rfl)
          clear ho3
          go_wp2_with (first | (at_builtin; refine wpList_append_own_at _ rfl _ _ 48 rfl w1.heap.size 25 i1 (.slice none 0 0) 1 24 Tryz.underlying48 HG.out.1 HG.out.2.1 HG.out.2.2.1 HG.out.2.2.2 rfl (by decide) _ _ _ rfl (World.ownsRow.alloc HN5.out.row _) ⟨w5.heap.size, 0, none⟩ 1 1 [_] rfl rfl (cell_one_new _ _ _) (by intro u hu; simp at hu; subst hu; rfl) (le_max (by omega)) (by omega) (by simp; omega) ?_; intro av w6 ah ag an aa) | (at_builtin; refine wpList_append_own _ rfl _ _ 25 rfl w3.heap.size 2 i0 (.int .i64 0) 1 8 Tryz.underlying25 HF.out.1 HF.out.2.1 HF.out.2.2.1 HF.out.2.2.2 rfl (by decide) _ 1 (vals [(k : Int) + 1]) rfl (Own.one ((k : Int) + 1) (Nat.le_refl w3.heap.size)) ⟨g3, 0, none⟩ ps.length c3 (vals ps) rfl (by rw [vals_length, Nat.mul_one]) HNEW.out HONE.out (le_max (by omega)) (by omega) (by simp) ?_; intro v5 w5 hown5 hgrow5 hnil5; have ho5 : Own w3.heap.size w5 v5 (((k : Int) + 1) :: ps) := Own.joined hown5 rfl; have hb5 : Below w3.heap.size w3 w5 := ((Below.refl _ w3).alloc (Nat.le_refl _) _).grown hgrow5 (by simp) (fun j hj => by cases hj; exact Nat.le_refl _); obtain ⟨A5, c5, rfl, -, -⟩ := ho5.slice; have HO5 := Lib.hid ho5; have HN5 := Lib.hid (HN3.out.later hb5); have hsz5 : w3.heap.size ≤ w5.heap.size := hb5.size; clear hown5 hgrow5 hnil5 ho5) | fail)
          obtain ⟨hN6, hb6⟩ := OwnN.push HN5.out HO5.out (by omega) HAP.out (by omega) ah ag aa
          have HN6 := Lib.hid hN6
          have hbw6 : Below w1.heap.size w1 w6 := (hbw3.trans (hb5.mono hbw3.size)).trans hb6
          clear ah ag an aa hN6 hb6
          go_wp2
          go_roundw
          case rel => exact ⟨k + 1, _, by omega, by go_num, hbw6, by rw [HS4.out]; exact HN6.out⟩
          case measure => simp [intOf]; omega
      · have HS4 : Hid (meshL N xs (k + 1) = meshL N xs k) := Lib.hid (by rw [HSM.out]; rfl)
        clear HSM
        go_wp2_with fail
        go_roundw
        case rel => exact ⟨k + 1, _, by omega, by go_num, hb, by rw [HS4.out]; exact HO2.out⟩
        case measure => simp [intOf]; omega
    · obtain rfl : k = xs.length := by omega
      have HO := Lib.hid ho
      clear ho
      go_wp2
      go_ret
      exact ⟨_, _, rfl, HO.out.less (by have := HB1.out.size; omega), HB1.out.trans (hb.mono HB1.out.size)⟩
end Go.Proofs.YtejkoicgbgoiaaaGreat

/- Fans: the pressure at a flow, by the program and by the reference. Conditions: the facts on memory and on lengths that each theorem names. -/
namespace Go.Proofs.YtejkoicgbgoiaaaGreat
open Go.RowKit
open Pl
theorem lin_in {x0 y0 x1 y1 x : Int} (a0 : 0 ≤ x0 ∧ x0 ≤ 100000) (a1 : 0 ≤ x1 ∧ x1 ≤ 100000) (b0 : 0 ≤ y0 ∧ y0 ≤ 10000) (b1 : 0 ≤ y1 ∧ y1 ≤ 10000) (h1 : ¬ x ≤ x0) (h2 : ¬ x1 ≤ x) :
    -1000000000 ≤ (y1 - y0) * (x - x0) ∧ (y1 - y0) * (x - x0) ≤ 1000000000 := by
  have := mul_abs (a := y1 - y0) (b := x - x0) (A := 10000) (B := 100000) (by omega) (by omega) (by omega) (by omega)
  omega
theorem blend_any (x0 y0 x1 y1 x : Int) (w : World) (a0 : 0 ≤ x0 ∧ x0 ≤ 100000) (a1 : 0 ≤ x1 ∧ x1 ≤ 100000) (b0 : 0 ≤ y0 ∧ y0 ≤ 10000) (b1 : 0 ≤ y1 ∧ y1 ≤ 10000) (_ : -100000 ≤ x ∧ x ≤ 100000) :
    Calls Tryz.prog 164 #[.int .i64 x0, .int .i64 y0, .int .i64 x1, .int .i64 y1, .int .i64 x] w fun e w' => e = .returned (.int .i64 (linF x0 y0 x1 y1 x)) ∧ ∃ n, w.drewN n = w' := by
  by_cases h1 : x ≤ x0
  · have e : linF x0 y0 x1 y1 x = y0 := by unfold linF; rw [if_pos (.inl h1)]
    rw [e]
    go_enter Tryz.func164, Tryz.ntmps164
    go_wp2
    go_ret
    exact ⟨rfl, 0, rfl⟩
  by_cases h2 : x1 ≤ x0
  · have e : linF x0 y0 x1 y1 x = y0 := by unfold linF; rw [if_pos (.inr h2)]
    rw [e]
    go_enter Tryz.func164, Tryz.ntmps164
    go_wp2
    go_ret
    exact ⟨rfl, 0, rfl⟩
  by_cases h3 : x1 ≤ x
  · have e : linF x0 y0 x1 y1 x = y1 := by unfold linF; rw [if_neg (by omega), if_pos h3]
    rw [e]
    go_enter Tryz.func164, Tryz.ntmps164
    go_wp2
    go_ret
    exact ⟨rfl, 0, rfl⟩
  have e : linF x0 y0 x1 y1 x = y0 + divR ((y1 - y0) * (x - x0)) (x1 - x0) := by unfold linF; rw [if_neg (by omega), if_neg h3]
  have hb := linF_bd (x0 := x0) (y0 := y0) (x1 := x1) (y1 := y1) (x := x)
  have hp := lin_in (x := x) a0 a1 b0 b1 h1 h3
  have hd1 := divR_le (a := (y1 - y0) * (x - x0)) (b := x1 - x0) (c := 1000000000) (by omega) (by omega) (by omega)
  have hd2 := le_divR (a := (y1 - y0) * (x - x0)) (b := x1 - x0) (c := 1000000000) (by omega) (by omega) (by omega)
  have HC := Lib.hid (fun W => divRound_any ((y1 - y0) * (x - x0)) (x1 - x0) W (by omega) (by omega) (by omega) (by omega))
  rw [e]
  clear hb e
  generalize divR ((y1 - y0) * (x - x0)) (x1 - x0) = d at *
  go_enter Tryz.func164, Tryz.ntmps164
  go_wp2_with (go_at_call 132; refine (HC.out _).mono ?_; rintro e w' ⟨rfl, _, rfl⟩)
  go_ret
  exact ⟨rfl, _, rfl⟩
theorem l01Line_any (x0 y0 x1 y1 x : Int) (w : World) (a0 : 0 ≤ x0 ∧ x0 ≤ 100000) (a1 : 0 ≤ x1 ∧ x1 ≤ 100000) (b0 : 0 ≤ y0 ∧ y0 ≤ 10000) (b1 : 0 ≤ y1 ∧ y1 ≤ 10000) (_ : -100000 ≤ x ∧ x ≤ 100000) :
    Calls Tryz.prog 171 #[.int .i64 x0, .int .i64 y0, .int .i64 x1, .int .i64 y1, .int .i64 x] w fun e w' => e = .returned (.int .i64 (linF x0 y0 x1 y1 x)) ∧ w = w' := by
  by_cases h1 : x ≤ x0
  · have e : linF x0 y0 x1 y1 x = y0 := by unfold linF; rw [if_pos (.inl h1)]
    rw [e]
    go_enter Tryz.func171, Tryz.ntmps171
    go_wp2
    go_ret
    exact ⟨rfl, rfl⟩
  by_cases h2 : x1 ≤ x0
  · have e : linF x0 y0 x1 y1 x = y0 := by unfold linF; rw [if_pos (.inr h2)]
    rw [e]
    go_enter Tryz.func171, Tryz.ntmps171
    go_wp2
    go_ret
    exact ⟨rfl, rfl⟩
  by_cases h3 : x1 ≤ x
  · have e : linF x0 y0 x1 y1 x = y1 := by unfold linF; rw [if_neg (by omega), if_pos h3]
    rw [e]
    go_enter Tryz.func171, Tryz.ntmps171
    go_wp2
    go_ret
    exact ⟨rfl, rfl⟩
  have e : linF x0 y0 x1 y1 x = y0 + divR ((y1 - y0) * (x - x0)) (x1 - x0) := by unfold linF; rw [if_neg (by omega), if_neg h3]
  have hp := lin_in (x := x) a0 a1 b0 b1 h1 h3
  have hd1 := divR_le (a := (y1 - y0) * (x - x0)) (b := x1 - x0) (c := 1000000000) (by omega) (by omega) (by omega)
  have hd2 := le_divR (a := (y1 - y0) * (x - x0)) (b := x1 - x0) (c := 1000000000) (by omega) (by omega) (by omega)
  have HC := Lib.hid (fun W => l01Div_any ((y1 - y0) * (x - x0)) (x1 - x0) W (by omega) (by omega) (by omega) (by omega))
  rw [e]
  clear e
  generalize divR ((y1 - y0) * (x - x0)) (x1 - x0) = d at *
  go_enter Tryz.func171, Tryz.ntmps171
  go_wp2_with (go_at_call 149; refine (HC.out _).mono ?_; rintro e w' ⟨rfl, rfl⟩)
  go_ret
  exact ⟨rfl, rfl⟩
theorem at2_pair {cv : List (List Int)} {k : Nat} {x y : Int} (h : cv.getD k [] = [x, y]) : at2 cv k 0 = x ∧ at2 cv k 1 = y := by
  unfold at2; rw [h]; exact ⟨rfl, rfl⟩
theorem pressF_zero {cv : List (List Int)} {q : Int} (h : Curved cv) (hq : q ≤ at2 cv 0 0) : pressF cv q = at2 cv 0 1 := by
  have h2 := h.two
  have hu : at2 cv 0 0 < at2 cv 1 0 := h.up 0 (by omega)
  unfold pressF
  rw [scanF_stop (by omega)]
  unfold linF
  rw [if_pos (.inl hq)]
theorem scanF_succ {cv : List (List Int)} {q : Int} {k : Nat} (hk : k + 1 < cv.length) (h : at2 cv k 0 < q) : scanF cv q (cv.length - 1 - k) k = scanF cv q (cv.length - 1 - (k + 1)) (k + 1) := by
  obtain ⟨n, hn⟩ : ∃ n, cv.length - 1 - k = n + 1 := ⟨cv.length - 2 - k, by omega⟩
  rw [hn, show cv.length - 1 - (k + 1) = n by omega]
  unfold scanF
  rw [if_pos h]
  cases n <;> rfl
theorem scanF_at {cv : List (List Int)} {q : Int} {k : Nat} (_ : k < cv.length) (h : k + 1 = cv.length ∨ ¬ at2 cv k 0 < q) : scanF cv q (cv.length - 1 - k) k = linF (at2 cv (k - 1) 0) (at2 cv (k - 1) 1) (at2 cv k 0) (at2 cv k 1) q := by
  rcases h with h | h
  · rw [show cv.length - 1 - k = 0 by omega]; rfl
  · exact scanF_stop h
set_option maxRecDepth 100000 in
set_option maxHeartbeats 1600000 in
theorem pressure_any (s : ByteArray) (a : Int) (A : Option Addr) (c : Nat) (cv : List (List Int)) (q : Int) (B : Nat) (w : World) (hI : Nest B w A cv) (hB : B ≤ w.heap.size) (hc : Curved cv) (hq : -100000 ≤ q ∧ q ≤ 100000) :
    Calls Tryz.prog 130 #[.agg #[.string s, .int .i64 a, .slice A cv.length c], .int .i64 q] w fun e w' => e = .returned (.int .i64 (pressF cv q)) ∧ Below w.heap.size w w' := by
  obtain ⟨R, hR⟩ : ∃ R, R = pressF cv q := ⟨_, rfl⟩
  rw [← hR]
  have HR : Hid (R = scanF cv q (cv.length - 1 - 1) 1) := Lib.hid (by rw [hR]; rfl)
  have h2 := hc.two
  have h8 := hc.eight
  have HCu := Lib.hid hc
  have be0 : Below w.heap.size w (w.alloc (.cells #[.string s, .int .i64 a, .slice A cv.length c] 74)) := by go_grown
  have J0 := Lib.hid ((hI.more hB).below be0)
  have b2 : ((w.alloc (.cells #[.string s, .int .i64 a, .slice A cv.length c] 74))).cell? ⟨w.heap.size, 2, none⟩ = some (.slice A cv.length c) := by go_simp
  clear hI hc hR
  go_enter Tryz.func130, Tryz.ntmps130
  go_wp2
  generalize (w.alloc (.cells #[.string s, .int .i64 a, .slice A cv.length c] 74)) = wb at *
  go_loopw [5] (fun ii wr => ∃ k : Nat, 1 ≤ k ∧ k < cv.length ∧ ii = .int .i64 k ∧ R = scanF cv q (cv.length - 1 - k) k ∧ wb = wr) (fun ii _ => cv.length - (intOf ii).toNat)
  case atStart => exact ⟨1, by omega, by omega, rfl, HR.out, rfl⟩
  case round =>
    obtain ⟨k, k1, hk, rfl, hr, rfl⟩ := hrel
    have HX := Lib.hid hr
    clear hr
    obtain ⟨x, y, hxy⟩ := pair_of (HCu.out.pair k hk)
    obtain ⟨hx, hy⟩ := at2_pair hxy
    obtain ⟨b, o, b1, o1, c1, rfl, -, -, d0, d1, d2⟩ := J0.out.pair hk hxy
    obtain ⟨p, hp⟩ : ∃ p, k = p + 1 := ⟨k - 1, by omega⟩
    obtain ⟨x', y', hxy'⟩ := pair_of (HCu.out.pair p (by omega))
    obtain ⟨hx', hy'⟩ := at2_pair hxy'
    obtain ⟨b', o', b2', o2, c2, hbo, -, -, e0, e1, e2⟩ := J0.out.pair (k := p) (by omega) hxy'
    cases hbo
    have hfl := HCu.out.flow k hk
    have hpu := HCu.out.push k hk
    have hfl' := HCu.out.flow p (by omega)
    have hpu' := HCu.out.push p (by omega)
    rw [hx] at hfl
    rw [hy] at hpu
    rw [hx'] at hfl'
    rw [hy'] at hpu'
    have i0 : (0 : Int) ≤ (k : Int) := by omega
    have i1 : (k : Int) < cv.length := by omega
    have hww : IntKind.i64.wrap ((cv.length : Int) - 1) = (cv.length : Int) - 1 := IntWalk.i64_in _ (by omega)
    have HEND : Hid ((k + 1 = cv.length ∨ ¬ x < q) → R = linF x' y' x y q) := Lib.hid (fun h => by
      rw [HX.out, scanF_at hk (by rw [hx]; exact h), show k - 1 = p by omega, hx, hy, hx', hy'])
    have HGO : Hid (k + 1 < cv.length → x < q → R = scanF cv q (cv.length - 1 - (k + 1)) (k + 1)) := Lib.hid (fun h h' => by
      rw [HX.out, scanF_succ h (by rw [hx]; exact h')])
    have HB := Lib.hid (fun W => blend_any x' y' x y q W hfl' hfl hpu' hpu hq)
    have w0 : (0 : Int) ≤ (p : Int) := by omega
    have w1 : (p : Int) < cv.length := by omega
    have hw : IntKind.i64.wrap ((k : Int) - 1) = (p : Int) := by rw [IntWalk.i64_in _ (by omega)]; omega
    clear hxy hxy' hx hy hx' hy' hp
    by_cases hend : k + 1 = cv.length ∨ ¬ x < q
    · have HE := Lib.hid (HEND.out hend)
      clear HEND HGO HX
      generalize linF x' y' x y q = z at *
      rcases hend with hend | hend
      · have hl : decide ((k : Int) < (cv.length : Int) - 1) = false := decide_eq_false (by omega)
        go_wp2
        go_big_quiet (fail)
        go_wp2
        go_big_quiet ((go_at_call 164; first | (with_reducible exact quiet_d (HB.out _)) | (with_reducible exact quiet_d2 (HB.out _))))
        go_wp2
        clear hw
        go_ret
        exact ⟨ret_int (by rw [HE.out]), by first | exact below_drewN be0 _ | exact below_drewN (below_drewN be0 _) _⟩
      · by_cases hl' : k + 1 = cv.length
        · have hl : decide ((k : Int) < (cv.length : Int) - 1) = false := decide_eq_false (by omega)
          go_wp2
          go_big_quiet (fail)
          go_wp2
          go_big_quiet ((go_at_call 164; first | (with_reducible exact quiet_d (HB.out _)) | (with_reducible exact quiet_d2 (HB.out _))))
          go_wp2
          clear hw
          go_ret
          exact ⟨ret_int (by rw [HE.out]), by first | exact below_drewN be0 _ | exact below_drewN (below_drewN be0 _) _⟩
        · have hl : decide ((k : Int) < (cv.length : Int) - 1) = true := decide_eq_true (by omega)
          go_wp2
          go_big_quiet (fail)
          go_wp2
          go_big_quiet ((go_at_call 164; first | (with_reducible exact quiet_d (HB.out _)) | (with_reducible exact quiet_d2 (HB.out _))))
          go_wp2
          clear hw
          go_ret
          exact ⟨ret_int (by rw [HE.out]), by first | exact below_drewN be0 _ | exact below_drewN (below_drewN be0 _) _⟩
    · have h5 : x < q := by omega
      have h6 : k + 1 < cv.length := by omega
      have HG := Lib.hid (HGO.out h6 h5)
      clear HEND HGO HX hw
      go_wp2
      go_roundw
      case rel => exact ⟨k + 1, by omega, by omega, by go_num, HG.out, by first | trivial | rfl⟩
      case measure => simp [intOf]; omega
set_option maxRecDepth 100000 in
set_option maxHeartbeats 1600000 in
theorem l06Pressure_any (bf of : Nat) (A : Option Addr) (c : Nat) (cv : List (List Int)) (q : Int) (B : Nat) (w : World) (hI : Nest B w A cv) (c2 : w.cell? ⟨bf, of + 2, none⟩ = some (.slice A cv.length c)) (hc : Curved cv) (hq : -100000 ≤ q ∧ q ≤ 100000) :
    Calls Tryz.prog 148 #[.pointer (some ⟨bf, of, none⟩), .int .i64 q] w fun e w' => e = .returned (.int .i64 (pressF cv q)) ∧ ∃ n, w.drewN n = w' := by
  obtain ⟨R, hR⟩ : ∃ R, R = pressF cv q := ⟨_, rfl⟩
  rw [← hR]
  have HR : Hid (R = scanF cv q (cv.length - 1 - 1) 1) := Lib.hid (by rw [hR]; rfl)
  have h2 := hc.two
  have h8 := hc.eight
  have HCu := Lib.hid hc
  have J0 := Lib.hid hI
  obtain ⟨x, y, hxy⟩ := pair_of (hc.pair 0 (by omega))
  obtain ⟨hx, hy⟩ := at2_pair hxy
  obtain ⟨b, o, b1, o1, c1, rfl, -, -, d0, d1, d2⟩ := J0.out.pair (k := 0) (by omega) hxy
  have HZ : Hid (q ≤ x → R = y) := Lib.hid (fun h => by rw [hR, pressF_zero HCu.out (by rw [hx]; exact h), hy])
  have hfl := hc.flow 0 (by omega)
  rw [hx] at hfl
  have d0 : w.cell? ⟨b, o, none⟩ = some (.slice (some ⟨b1, o1, none⟩) 2 c1) := d0
  have hl0 : (0 : Int) < cv.length := by omega
  have HU : Hid (x = at2 cv 0 0) := Lib.hid hx.symm
  clear hI hc hR hxy hx hy
  by_cases hq0 : q ≤ x
  · have HE := Lib.hid (HZ.out hq0)
    clear HZ
    go_enter Tryz.func148, Tryz.ntmps148
    go_wp2
    go_ret
    exact ⟨ret_int (by rw [HE.out]), 0, rfl⟩
  clear HZ
  go_enter Tryz.func148, Tryz.ntmps148
  go_wp2
  go_loopw [6] (fun ii wr => ∃ k : Nat, 1 ≤ k ∧ k ≤ cv.length ∧ ii = .int .i64 k ∧ at2 cv (k - 1) 0 < q ∧ R = (if k = cv.length then at2 cv (k - 1) 1 else scanF cv q (cv.length - 1 - k) k) ∧ w = wr) (fun ii _ => cv.length - (intOf ii).toNat)
  case atStart => exact ⟨1, by omega, by omega, rfl, by have := HU.out; show at2 cv 0 0 < q; omega, by rw [if_neg (by omega)]; exact HR.out, rfl⟩
  case round =>
    obtain ⟨k, k1, hk, rfl, hlow, hr, rfl⟩ := hrel
    have HX := Lib.hid hr
    have HLo := Lib.hid hlow
    clear hr hlow
    obtain ⟨p, hp⟩ : ∃ p, k = p + 1 := ⟨k - 1, by omega⟩
    obtain ⟨x', y', hxy'⟩ := pair_of (HCu.out.pair p (by omega))
    obtain ⟨hx', hy'⟩ := at2_pair hxy'
    obtain ⟨b', o', b2', o2, c2', hbo, -, -, e0, e1, e2⟩ := J0.out.pair (k := p) (by omega) hxy'
    cases hbo
    have hfl' := HCu.out.flow p (by omega)
    have hpu' := HCu.out.push p (by omega)
    rw [hx'] at hfl'
    rw [hy'] at hpu'
    have w0 : (0 : Int) ≤ (p : Int) := by omega
    have w1 : (p : Int) < cv.length := by omega
    by_cases hlt : k < cv.length
    · obtain ⟨x2, y2, hxy⟩ := pair_of (HCu.out.pair k hlt)
      obtain ⟨hx, hy⟩ := at2_pair hxy
      obtain ⟨b', o', b3, o3, c3, hbo, -, -, f0, f1, f2⟩ := J0.out.pair hlt hxy
      cases hbo
      have hfl := HCu.out.flow k hlt
      have hpu := HCu.out.push k hlt
      rw [hx] at hfl
      rw [hy] at hpu
      have i0 : (0 : Int) ≤ (k : Int) := by omega
      have i1 : (k : Int) < cv.length := by omega
      have HEND : Hid (q ≤ x2 → R = linF x' y' x2 y2 q) := Lib.hid (fun h => by
        rw [HX.out, if_neg (by omega), scanF_at hlt (.inr (by rw [hx]; omega)), show k - 1 = p by omega, hx, hy, hx', hy'])
      have HGO : Hid (x2 < q → R = (if k + 1 = cv.length then at2 cv (k + 1 - 1) 1 else scanF cv q (cv.length - 1 - (k + 1)) (k + 1))) := Lib.hid (fun h => by
        rw [HX.out, if_neg (by omega)]
        by_cases e : k + 1 = cv.length
        · rw [if_pos e, scanF_at hlt (.inl e)]
          unfold linF
          have h9 := HLo.out
          rw [show k - 1 = p by omega] at h9
          have hup := HCu.out.up p (by omega)
          rw [← hp] at hup
          rw [show k - 1 = p by omega, if_neg (by omega), if_pos (by rw [hx]; omega)]
          rfl
        · rw [if_neg e, scanF_succ (by omega) (by rw [hx]; exact h)])
      have HA : Hid (at2 cv (k + 1 - 1) 0 = x2) := Lib.hid hx
      have HB := Lib.hid (fun W => l01Line_any x' y' x2 y2 q W hfl' hfl hpu' hpu hq)
      have hw : IntKind.i64.wrap ((k : Int) - 1) = (p : Int) := by rw [IntWalk.i64_in _ (by omega)]; omega
      clear hxy hxy' hx hy hx' hy' HX hp
      by_cases hend : q ≤ x2
      · have HE := Lib.hid (HEND.out hend)
        clear HEND HGO
        generalize linF x' y' x2 y2 q = z at *
        go_wp2
        go_big_quiet ((go_at_call 171; first | (with_reducible exact quiet_s (HB.out _)) | (with_reducible exact quiet_s2 (HB.out _))))
        go_wp2
        clear hw
        go_ret
        exact ⟨ret_int (by rw [HE.out]), _, rfl⟩
      · have HG := Lib.hid (HGO.out (by omega))
        clear HEND HGO
        go_wp2
        clear hw
        go_roundw
        case rel => exact ⟨k + 1, by omega, by omega, by go_num, by rw [HA.out]; omega, HG.out, by first | trivial | rfl⟩
        case measure => simp [intOf]; omega
    · obtain rfl : k = cv.length := by omega
      have HE : Hid (R = y') := Lib.hid (by rw [HX.out, if_pos rfl, show cv.length - 1 = p by omega, hy'])
      have hw : IntKind.i64.wrap ((cv.length : Int) - 1) = (p : Int) := by rw [IntWalk.i64_in _ (by omega)]; omega
      clear hxy' hx' hy' HX hp
      go_wp2
      clear hw
      go_ret
      exact ⟨ret_int (by rw [HE.out]), 0, rfl⟩
end Go.Proofs.YtejkoicgbgoiaaaGreat

/- A copy of a list of numbers by the reference's own function. Conditions: the lengths that each theorem names. -/
namespace Go.Proofs.YtejkoicgbgoiaaaGreat
open Go.RowKit
open Pl
set_option maxRecDepth 100000 in
theorem l00Own_any (ad : Addr) (c : Nat) (xs : List Int) (B : Nat) (w : World) (hn : xs.length ≤ 1048576) (hI : Ints B w (some ad) xs) :
    Calls Tryz.prog 88 #[.slice (some ad) xs.length c] w fun e w' => ∃ v, e = .returned v ∧ Own w.heap.size w' v xs ∧ Below w.heap.size w w' := by
  obtain ⟨i0, hi, hz0, hz1, hz2⟩ := info_parts infoI
  have J : Hid (∀ j u, (vals xs)[j]? = some u → w.cell? (ad.add j) = some u) := Lib.hid (by
    intro j u hj
    obtain ⟨hj', _⟩ := List.getElem?_eq_some_iff.1 hj
    rw [vals_length] at hj'
    rw [vals_get hj'] at hj
    injection hj with hj
    subst hj
    obtain ⟨ad', e, _, hc⟩ := hI.at_ hj'
    injection e with e
    subst e
    exact hc)
  clear hI
  have H1 : Hid (∀ u ∈ vals xs, u.oneCell' = true) := Lib.hid (by
    intro u hu
    unfold vals at hu
    obtain ⟨x, _, rfl⟩ := List.mem_map.1 hu
    rfl)
  have HF := Lib.hid (And.intro hi (And.intro hz0 (And.intro hz1 hz2)))
  clear hi hz0 hz1 hz2
  go_enter Tryz.func88, Tryz.ntmps88
  go_wp2_with (at_builtin; refine wpList_append_own _ rfl _ _ 25 rfl w.heap.size 2 i0 (.int .i64 0) 1 8 Tryz.underlying25 HF.out.1 HF.out.2.1 HF.out.2.2.1 HF.out.2.2.2 rfl (by decide) _ _ _ rfl (Own.empty (Nat.le_refl _)) ad xs.length c (vals xs) rfl ?qc1 ?qc2 ?qc3 ?qc4 ?qc5 ?qc6 ?_)
  case qc1 => rw [vals_length, Nat.mul_one]
  case qc2 => intro j u hj; exact Lib.cell?_alloc_some _ (J.out j u hj)
  case qc3 => exact H1.out
  case qc4 => exact le_max (by simp; omega)
  case qc5 => simp; omega
  case qc6 => simp
  intro v' w1 hown hgrow hnil
  go_wp2
  go_ret
  refine ⟨v', rfl, ?_, ?_⟩
  · unfold Own; simpa [vals] using hown
  · exact ((Below.refl _ w).alloc (Nat.le_refl _) _).grown hgrow (by simp) (by intro k hk; simp [Value.ownBlock] at hk; omega)
end Go.Proofs.YtejkoicgbgoiaaaGreat

/- A region that draws its order, whose operations but the last one only read or call, and whose last one (a store) waits for all the others: one walk of the text's order serves every order, and the last operation runs in a later world. No conditions. -/
namespace Go.Proofs.YtejkoicgbgoiaaaGreat
open Go.RowKit
/-- An operation that does nothing, in the place of another one. -/
def mute (o : Oper) : Oper := { o with op := .move (.const undef), dst := none }
def muteEnd : List Oper → List Oper
  | [] => []
  | [o] => [mute o]
  | o :: o' :: l => o :: muteEnd (o' :: l)
def theEnd : List Oper → List Oper
  | [] => []
  | [o] => [o]
  | _ :: o' :: l => theEnd (o' :: l)
/-- What is asked of such a region: no guards; the edges lead back; the last one names no temporary and waits for each other one. -/
def endB (l : List Oper) : Bool :=
  (theEnd l).all (fun o => o.dst.isNone && (List.range (l.length - 1)).all (fun i => o.after.any fun e => Region.binds .any e && e.on == i)) && !l.isEmpty &&
    l.all (fun o => o.guard.isNone) && (List.range l.length).all (fun i => (l[i]?).all fun o => o.after.all fun e => decide (e.on < i))
theorem mute_app : ∀ (l0 : List Oper) (o : Oper), muteEnd (l0 ++ [o]) = l0 ++ [mute o] ∧ theEnd (l0 ++ [o]) = [o]
  | [], o => ⟨rfl, rfl⟩
  | [x], o => ⟨rfl, rfl⟩
  | x :: y :: l, o => by
    obtain ⟨h1, h2⟩ := mute_app (y :: l) o
    have e1 : muteEnd (x :: y :: l ++ [o]) = x :: muteEnd (y :: l ++ [o]) := rfl
    have e2 : theEnd (x :: y :: l ++ [o]) = theEnd (y :: l ++ [o]) := rfl
    rw [e1, e2, h1, h2]
    exact ⟨rfl, rfl⟩
theorem app_last {α : Type} : ∀ (l : List α), l ≠ [] → ∃ l0 o, l = l0 ++ [o]
  | [], h => absurd rfl h
  | [x], _ => ⟨[], x, rfl⟩
  | x :: y :: l, _ => by
    obtain ⟨l0, o, e⟩ := app_last (y :: l) (by simp)
    exact ⟨x :: l0, o, by rw [e]; rfl⟩
section
variable {P : Program} {C : World → Prop} {Q : Exit → Act → World → Prop} {l0 : List Oper} {o : Oper}
theorem get_other {j : Nat} (h : j ≠ l0.length) : (l0 ++ [mute o]).toArray[j]? = (l0 ++ [o]).toArray[j]? := by
  simp only [List.getElem?_toArray]
  rcases Nat.lt_or_ge j l0.length with h' | h'
  · rw [List.getElem?_append_left h', List.getElem?_append_left h']
  · rw [List.getElem?_eq_none (by simp; omega), List.getElem?_eq_none (by simp; omega)]
theorem get_end (o : Oper) : (l0 ++ [o]).toArray[l0.length]? = some o := by simp
theorem ready_mute {md : Region.Mode} {listed : Array Bool} {j : Nat} : j ∈ Region.ready md (l0 ++ [mute o]).toArray listed ↔ j ∈ Region.ready md (l0 ++ [o]).toArray listed := by
  rw [mem_ready, mem_ready]
  by_cases e : j = l0.length
  · subst e
    rw [get_end, get_end]
    constructor
    · rintro ⟨h, o', h1, h2⟩; injection h1 with h1; subst h1; exact ⟨h, o, rfl, h2⟩
    · rintro ⟨h, o', h1, h2⟩; injection h1 with h1; subst h1; exact ⟨h, mute o, rfl, h2⟩
  · rw [get_other e]
theorem getD_tf {listed : Array Bool} {i : Nat} (hi : i < listed.size) (h : ¬ listed.getD i false = true) : listed.getD i true = false := by
  simp [hi] at h ⊢; exact h
theorem ready_some {md : Region.Mode} {ops : Array Oper} (hb : ∀ (i : Nat) (o : Oper), ops[i]? = some o → ∀ e ∈ o.after, e.on < i) {listed : Array Bool} (hs : listed.size = ops.size) :
    ∀ m, m < ops.size → listed.getD m true = false → ∃ j, j ∈ Region.ready md ops listed := by
  intro m
  induction m using Nat.strongRecOn with
  | ind m ih =>
    intro hm hu
    by_cases hr : m ∈ Region.ready md ops listed
    · exact ⟨m, hr⟩
    · have ho : ops[m]? = some ops[m] := Array.getElem?_eq_getElem hm
      have hex : ∃ e ∈ ops[m].after, Region.binds md e = true ∧ ¬ listed.getD e.on false = true := by
        by_cases hall : ∀ e ∈ ops[m].after, Region.binds md e = true → listed.getD e.on false = true
        · exact absurd (mem_ready.2 ⟨hu, _, ho, hall⟩) hr
        · obtain ⟨e, he⟩ := Classical.not_forall.1 hall
          obtain ⟨h1, h2⟩ := Classical.not_imp.1 he
          obtain ⟨h2, h3⟩ := Classical.not_imp.1 h2
          exact ⟨e, h1, h2, h3⟩
      obtain ⟨e, he, _, hl⟩ := hex
      have hlt := hb m _ ho e he
      exact ih e.on hlt (by omega) (getD_tf (by omega) hl)
theorem ready_none {md : Region.Mode} {listed : Array Bool} (hw : ∀ i, i < l0.length → ∃ e ∈ o.after, Region.binds md e = true ∧ e.on = i) (hs : listed.size = l0.length + 1)
    (h : l0.length ∈ Region.ready md (l0 ++ [o]).toArray listed) : Region.ready md (l0 ++ [o]).toArray (listed.setIfInBounds l0.length true) = [] := by
  rw [List.eq_nil_iff_forall_not_mem]
  intro j hj
  obtain ⟨h1, o', h2, _⟩ := mem_ready.1 hj
  have hjl : j < l0.length + 1 := by
    have := (Array.getElem?_eq_some_iff.1 h2).1
    simpa using this
  by_cases e : j = l0.length
  · subst e
    simp [hs] at h1
  · obtain ⟨_, o2, g1, g2⟩ := mem_ready.1 h
    rw [get_end] at g1
    injection g1 with g1
    subst g1
    obtain ⟨e1, he1, hb1, hon⟩ := hw j (by omega)
    have g3 := g2 e1 he1 hb1
    rw [hon] at g3
    rw [getD_set_ne true (by omega)] at h1
    have hjs : j < listed.size := by omega
    simp [hjs] at g3 h1
    rw [g3] at h1
    cases h1
theorem wpAny_of_end (md : Region.Mode) (hg : ∀ o' ∈ l0 ++ [o], o'.guard = none) (hb : ∀ (i : Nat) (o' : Oper), (l0 ++ [o]).toArray[i]? = some o' → ∀ e ∈ o'.after, e.on < i) (hw : ∀ i, i < l0.length → ∃ e ∈ o.after, Region.binds md e = true ∧ e.on = i) :
    ∀ (fuel : Nat) (listed : Array Bool) (a : Act) (w : World), C w → listed.size = l0.length + 1 → listed.getD l0.length true = false →
      wpAnyQ P md (l0 ++ [mute o]).toArray C (fun a' => ∀ w', C w' → wpList P (l0 ++ [o]).toArray Q [o] a' w') fuel listed a → wpAny P md (l0 ++ [o]).toArray Q fuel listed a w := by
  have hsz : (l0 ++ [o]).toArray.size = l0.length + 1 := by simp
  have hwant : ∀ o' ∈ l0 ++ [o], ∀ y, Region.wanted o' y = true := fun o' h y => by unfold Region.wanted; rw [hg o' h]
  have hwm : ∀ y, Region.wanted (mute o) y = true := fun y => by
    have := hg o (by simp)
    unfold Region.wanted mute
    rw [this]
  have hno : ∀ (listed : Array Bool), listed.size = l0.length + 1 → listed.getD l0.length true = false → ∃ j, j ∈ Region.ready md (l0 ++ [o]).toArray listed := fun listed h1 h2 => ready_some hb (h1.trans hsz.symm) l0.length (by omega) h2
  intro fuel
  induction fuel with
  | zero =>
    intro listed a w _ h1 h2 h
    obtain ⟨j, hj⟩ := hno listed h1 h2
    have := ready_mute.2 hj
    rw [h.1] at this
    cases this
  | succ fuel ih =>
    intro listed a w hC h1 h2 h
    refine ⟨fun hr => ?_, fun i hi => ?_⟩
    · obtain ⟨j, hj⟩ := hno listed h1 h2
      rw [hr] at hj
      cases hj
    · have hq := h.2 i (ready_mute.2 hi)
      by_cases e : i = l0.length
      · subst e
        unfold qOp at hq
        rw [get_end] at hq
        dsimp only at hq
        rw [if_pos (hwm _)] at hq
        obtain ⟨v, _, hK⟩ := hq
        have hK : wpAnyQ P md (l0 ++ [mute o]).toArray C (fun a' => ∀ w', C w' → wpList P (l0 ++ [o]).toArray Q [o] a' w') fuel (listed.setIfInBounds l0.length true) a := hK
        have hrn := ready_none hw h1 hi
        have hrn' : Region.ready md (l0 ++ [mute o]).toArray (listed.setIfInBounds l0.length true) = [] := by
          rw [List.eq_nil_iff_forall_not_mem]
          intro j hj
          have := ready_mute.1 hj
          rw [hrn] at this
          cases this
        have hL : ∀ w', C w' → wpList P (l0 ++ [o]).toArray Q [o] a w' := by
          cases fuel with
          | zero => exact hK.2
          | succ f => exact hK.1 hrn'
        have h3 := hL w hC
        have h4 : wpOp P (l0 ++ [o]).toArray Q l0.length (fun a' w' => Q .normal a' w') a w := by
          unfold wpOp
          rw [get_end]
          exact h3
        refine wpOp_mono (fun a' w' hN => ?_) h4
        cases fuel with
        | zero => exact ⟨hrn, hN⟩
        | succ f => exact ⟨fun _ => hN, fun j hj => by rw [hrn] at hj; cases hj⟩
      · obtain ⟨_, o', ho', _⟩ := mem_ready.1 hi
        have hmem : o' ∈ l0 ++ [o] := by
          have := Array.mem_of_getElem? ho'
          simpa using this
        have hq' : qOp P (l0 ++ [o]).toArray C i (wpAnyQ P md (l0 ++ [mute o]).toArray C (fun a' => ∀ w', C w' → wpList P (l0 ++ [o]).toArray Q [o] a' w') fuel (listed.setIfInBounds i true)) a := by
          unfold qOp at hq ⊢
          rw [get_other e] at hq
          rw [ho'] at hq ⊢
          dsimp only at hq ⊢
          rw [if_pos (hwant o' hmem _)] at hq ⊢
          exact hq
        exact wpOp_of_qOp hC (fun a' w' hC' hK => ih _ a' w' hC' (by simpa using h1) (by rw [getD_set_ne true e]; exact h2) hK) hq'
end
theorem wp_region_end {P : Program} {id : Nat} {Q : Exit → Act → World → Prop} {a : Act} {w : World} {l : List Oper} (hm : P.follows .mixedOrders = true) (hB : Region.lexB .any (muteEnd l).toArray = true) (hE : endB l = true)
    (h : wpQuiet P (muteEnd l).toArray (fun w' => ∃ L : Later w, w' = L.world) (fun a' => ∀ w', (∃ L : Later w, w' = L.world) → wpList P l.toArray Q (theEnd l) a' w') (muteEnd l) a) : (Code.region id l.toArray true).wp P Q a w := by
  unfold endB at hE
  simp only [Bool.and_eq_true] at hE
  obtain ⟨⟨⟨hE, hne⟩, hg⟩, hb⟩ := hE
  obtain ⟨l0, o, rfl⟩ := app_last l (by intro e; rw [e] at hne; cases hne)
  obtain ⟨e1, e2⟩ := mute_app l0 o
  rw [e1] at hB h
  rw [e2] at h hE
  simp only [List.all_cons, List.all_nil, Bool.and_true, Bool.and_eq_true] at hE
  have hw : ∀ i, i < l0.length → ∃ e ∈ o.after, Region.binds .any e = true ∧ e.on = i := fun i hi => by
    have := List.all_eq_true.1 hE.2 i (List.mem_range.2 (by simp; omega))
    obtain ⟨e, he, h2⟩ := Array.any_eq_true'.1 this
    rw [Bool.and_eq_true, beq_iff_eq] at h2
    exact ⟨e, he, h2.1, h2.2⟩
  have hg' : ∀ o' ∈ l0 ++ [o], o'.guard = none := fun o' h' => by
    have := List.all_eq_true.1 hg o' h'
    simpa using this
  have hb' : ∀ (i : Nat) (o' : Oper), (l0 ++ [o]).toArray[i]? = some o' → ∀ e ∈ o'.after, e.on < i := fun i o' h' e he => by
    have hi : i < (l0 ++ [o]).length := by
      have := (Array.getElem?_eq_some_iff.1 h').1
      simpa using this
    have h3 := List.all_eq_true.1 hb i (List.mem_range.2 hi)
    have h4 : (l0 ++ [o])[i]? = some o' := by simpa using h'
    rw [h4] at h3
    have h5 : o'.after.all (fun e => decide (e.on < i)) = true := by simpa using h3
    exact of_decide_eq_true (Array.all_eq_true_iff_forall_mem.1 h5 e he)
  simp only [Region.lexB, Bool.and_eq_true] at hB
  refine wp_region_any hm ?_
  have H := wpAnyQ_lex (P := P) (C := fun w' => ∃ L : Later w, w' = L.world) (md := .any) hB.1 (l0 ++ [mute o]) 0 (Array.replicate (l0.length + 1) false) a (by simp) (by simpa using hB.2) h
  have hs : (l0 ++ [o]).toArray.size = l0.length + 1 := by simp
  rw [hs]
  rw [show (l0 ++ [mute o]).length = l0.length + 1 by simp] at H
  exact wpAny_of_end .any hg' hb' hw _ _ a _ ⟨⟨_, (Below.refl _ _).drew⟩, rfl⟩ (by simp) (by simp) H
end Go.Proofs.YtejkoicgbgoiaaaGreat

/- Flows: the pushes of fans and draught, by the program and by the reference. Conditions: the facts on memory and on lengths that each theorem names. -/
namespace Go.Proofs.YtejkoicgbgoiaaaGreat
open Go.RowKit
open Pl
theorem pushK_step {fs : List Fa} {fl dr : List Int} {k a : Nat} {s : ByteArray} {cv : List (List Int)} {a' : Int} (ha : (fs.getD k nFa).aw = a) (hx : fs.getD k nFa = ⟨s, a', cv⟩) :
    pushK fs fl dr (k + 1) = (pushK fs fl dr k).set a ((pushK fs fl dr k).getD a 0 + pressF cv (fl.getD a 0)) := by
  have e : pushK fs fl dr (k + 1) = (pushK fs fl dr k).set (fs.getD k nFa).aw.toNat ((pushK fs fl dr k).getD (fs.getD k nFa).aw.toNat 0 + pressF (fs.getD k nFa).cv (fl.getD (fs.getD k nFa).aw.toNat 0)) := rfl
  rw [e, ha, Int.toNat_natCast, hx]
/-- A cell of numbers that lie below B, in a later world, lies apart from a block from B on. -/
theorem cell_apart {w : World} {p ad : Addr} {v u : Value} (h : w.cell? ad = some u) (hne : p.block ≠ ad.block) : (w.setCell p v).cell? ad = some u := (World.cell?_setCell_far _ _ _ _ hne).trans h
theorem row_on {base n s : Nat} {w w' : World} {T : TypeId} {v : Value} {ys : List Value} (h : w.ownsRow base T s v n ys) (hb : Below w.heap.size w w') : w'.ownsRow base T s v n ys := by
  refine ⟨h.1, ?_⟩
  rcases h.2 with hn | ⟨g, cap, cur, e1, e2, e3, rest⟩
  · exact .inl hn
  · exact .inr ⟨g, cap, cur, e1, e2, (hb.block g (Array.getElem?_eq_some_iff.1 e3).1).trans e3, rest⟩
set_option maxRecDepth 100000 in
set_option maxHeartbeats 3200000 in
theorem pushesOf_any (nx : Nat) (AF : Option Addr) (cf : Nat) (fs : List Fa) (AD : Option Addr) (cd : Nat) (dr : List Int) (AL : Option Addr) (cl : Nat) (fl : List Int) (B : Nat) (w : World) (hB : B ≤ w.heap.size) (hF : Fns B w AF fs) (hD : Ints B w AD dr) (hL : Ints B w AL fl) (hfo : FansOk nx fs) (hn : nx ≤ 24)
    (hdl : dr.length = nx) (hfl : fl.length = nx) (hdb : ∀ i, i < nx → -100000 ≤ dr.getD i 0 ∧ dr.getD i 0 ≤ 100000) (hfb : ∀ i, i < nx → -100000 ≤ fl.getD i 0 ∧ fl.getD i 0 ≤ 100000) :
    Calls Tryz.prog 95 #[.slice AF fs.length cf, .slice AD dr.length cd, .slice AL fl.length cl] w fun e w' => ∃ v, e = .returned v ∧ Own w.heap.size w' v (pushF fs fl dr) ∧ Below w.heap.size w w' := by
  have HFO := Lib.hid hfo
  have HDL := Lib.hid hdl
  have HFL := Lib.hid hfl
  have HDB := Lib.hid hdb
  have HFB := Lib.hid hfb
  have J0 := Lib.hid (hF.more hB)
  have JL := Lib.hid (hL.more hB)
  have h8 := hfo.few
  have hd24 : dr.length ≤ 24 := by omega
  have hf24 : fl.length ≤ 24 := by omega
  have HC := Lib.hid (Clone_any AD cd dr B w (by omega) hD)
  clear hF hD hL hfo hdl hfl hdb hfb
  go_enter Tryz.func95, Tryz.ntmps95
  go_wp2_with fail
  refine HC.out.mono ?_
  rintro e w1 ⟨v, rfl, ho1, hb1⟩
  obtain ⟨A1, c1, rfl, -, -⟩ := ho1.slice
  have HO1 := Lib.hid ho1
  clear ho1
  go_wp2_with fail
  go_loopw [14] (fun ii wr => ∃ k : Nat, k ≤ fs.length ∧ ii = .int .i64 k ∧ Below w.heap.size w wr ∧ Own w.heap.size wr (.slice A1 dr.length c1) (pushK fs fl dr k)) (fun ii _ => fs.length - (intOf ii).toNat)
  case atStart => exact ⟨0, Nat.zero_le _, rfl, hb1, HO1.out⟩
  case round =>
    obtain ⟨k, hk, rfl, hb, ho⟩ := hrel
    by_cases hlt : k < fs.length
    · obtain ⟨a, ha, hax⟩ := HFO.out.air k hlt
      have hcu := HFO.out.cur k hlt
      have hpb := pushK_bd (fl := fl) HFO.out HDL.out HDB.out k (by omega) a hax
      have hfb := HFB.out a hax
      obtain ⟨⟨s, a', cv⟩, hx⟩ : ∃ x, fs.getD k nFa = x := ⟨_, rfl⟩
      have hst := pushK_step (fl := fl) (dr := dr) ha hx
      rw [hx] at ha hcu
      have ha : a' = (a : Int) := ha
      subst ha
      have hcu : Curved cv := hcu
      have hpr := pressF_bd hcu (fl.getD a 0)
      obtain ⟨b, o, A', c', rfl, hab, f0, f1, f2, hcv⟩ := (J0.out.below hb).at_ hlt hx
      obtain ⟨g, rfl, hg1, hrow⟩ := ho.row (n := dr.length) (by have := HDL.out; omega) (pushK_length _ _ _ _)
      have hca := row_cell hrow (pushK_length _ _ _ _) (i := a) (by have := HDL.out; omega)
      have hfr := row_free hrow a
      obtain ⟨adl, rfl, hal, hcl⟩ := (JL.out.below hb).atD (k := a) (by have := HFL.out; omega)
      have hglt := row_lt hrow
      have hsz := hb.size
      have hba : Below wr.heap.size wr (wr.alloc (.cells #[.string s, .int .i64 (a : Int), .slice A' cv.length c'] 74)) := (Below.refl _ _).alloc (Nat.le_refl _) _
      have a0 : ((wr.alloc (.cells #[.string s, .int .i64 (a : Int), .slice A' cv.length c'] 74))).cell? ⟨wr.heap.size, 0, none⟩ = some (.string s) := by go_simp
      have a1 : ((wr.alloc (.cells #[.string s, .int .i64 (a : Int), .slice A' cv.length c'] 74))).cell? ⟨wr.heap.size, 1, none⟩ = some (.int .i64 (a : Int)) := by go_simp
      have a2 : ((wr.alloc (.cells #[.string s, .int .i64 (a : Int), .slice A' cv.length c'] 74))).cell? ⟨wr.heap.size, 2, none⟩ = some (.slice A' cv.length c') := by go_simp
      have hca' := cell_later hba hca
      have hcl' := cell_later hba hcl
      have hfr' : ((wr.alloc (.cells #[.string s, .int .i64 (a : Int), .slice A' cv.length c'] 74))).frozen? ⟨g, a, none⟩ = false := (hba.frozen (p := ⟨g, a, none⟩) hglt).trans hfr
      have hrow' := World.ownsRow.alloc hrow (.cells #[.string s, .int .i64 (a : Int), .slice A' cv.length c'] 74)
      have hbw : Below w.heap.size w (wr.alloc (.cells #[.string s, .int .i64 (a : Int), .slice A' cv.length c'] 74)) := hb.trans (hba.mono hsz)
      have HCV := Lib.hid (hcv.more (B' := wr.heap.size) (by omega))
      have i0 : (0 : Int) ≤ (k : Int) := by omega
      have i1 : (k : Int) < fs.length := by omega
      have z0 : (0 : Int) ≤ (a : Int) := by omega
      have z1 : (a : Int) < dr.length := by have := HDL.out; omega
      have z2 : (a : Int) < fl.length := by have := HFL.out; omega
      have HP := Lib.hid (fun (W : World) (hW : Below wr.heap.size wr W) => pressure_any s (a : Int) A' c' cv (fl.getD a 0) wr.heap.size W (HCV.out.below hW) hW.size hcu hfb)
      have HROW := Lib.hid hrow'
      have HBW := Lib.hid hbw
      have HBA := Lib.hid hba
      have HST := Lib.hid hst
      have hl4 : wr.heap.size < ((wr.alloc (.cells #[.string s, .int .i64 (a : Int), .slice A' cv.length c'] 74))).heap.size := by simp
      clear hst hx hrow hrow' hca hcl hfr ho hcu hcv HCV hbw hba
      go_wp2_with fail
      clear f0 f1 f2
      generalize (wr.alloc (.cells #[.string s, .int .i64 (a : Int), .slice A' cv.length c'] 74)) = wa at *
      generalize pressF cv (fl.getD a 0) = p at *
      generalize fl.getD a 0 = q at *
      have HPL := Lib.hid (pushK_length fs fl dr k)
      generalize pushK fs fl dr k = D at *
      generalize D.getD a 0 = x at *
      have g0 := fun L : Later wa => L.cell a0
      have g1 := fun L : Later wa => L.cell a1
      have g2 := fun L : Later wa => L.cell a2
      have gp := fun L : Later wa => L.cell hca'
      have gq := fun L : Later wa => L.cell hcl'
      have HP2 := Lib.hid (fun L : Later wa => HP.out L.world (HBA.out.trans (L.below.mono (by omega))))
      refine wp_region_end (by kernel_rfl) (by kernel_rfl) (by kernel_rfl) ?_
      simp only [muteEnd, mute, theEnd]
      repeat (go_big_quiet_step ((go_at_call 130; first | (with_reducible exact later_b (HP2.out _)) | (with_reducible exact later_d (HP2.out _)) | (with_reducible exact later_s (HP2.out _)))))
      refine wpQuiet_nil ?_
      intro _ hw'
      obtain ⟨LL, hw''⟩ := hw'
      subst hw''
      have hfr3 := (LL.below.frozen (p := ⟨g, a, none⟩) (show g < wa.heap.size by omega)).trans hfr'
      have hca3 := LL.cell hca'
      have HROW3 := Lib.hid (row_on HROW.out LL.below)
      have HBW3 := Lib.hid (HBW.out.trans (LL.below.mono HBW.out.size))
      clear g0 g1 g2 gp gq
      generalize LL.world = w3 at *
      go_wp2_with fail
      go_roundw
      case rel => exact ⟨k + 1, by omega, by go_num, (fit_set ⟨HBW3.out, HROW3.out⟩ hg1 a (x + p)).1, by rw [HST.out]; exact Own.of_row (fit_set ⟨HBW3.out, HROW3.out⟩ hg1 a (x + p)).2 (by rw [List.length_set, HPL.out]) hg1⟩
      case measure => simp [intOf]; omega
    · obtain rfl : k = fs.length := by omega
      have HO := Lib.hid ho
      clear ho
      go_wp2
      go_ret
      exact ⟨_, rfl, HO.out, hb⟩
theorem l00Own_gen (A : Option Addr) (c : Nat) (xs : List Int) (B : Nat) (w : World) (hn : xs.length ≤ 1048576) (hI : Ints B w A xs) :
    Calls Tryz.prog 88 #[.slice A xs.length c] w fun e w' => ∃ v, e = .returned v ∧ Own w.heap.size w' v xs ∧ Below w.heap.size w w' := by
  cases A with
  | some ad => exact l00Own_any ad c xs B w hn hI
  | none =>
    obtain rfl := hI.none_nil
    go_enter Tryz.func88, Tryz.ntmps88
    go_wp2
    go_ret
    exact ⟨_, rfl, Own.empty (Nat.le_refl _), by go_grown⟩
set_option maxRecDepth 100000 in
set_option maxHeartbeats 3200000 in
theorem l07Pushes_any (nx : Nat) (AF : Option Addr) (cf : Nat) (fs : List Fa) (AD : Option Addr) (cd : Nat) (dr : List Int) (AL : Option Addr) (cl : Nat) (fl : List Int) (B : Nat) (w : World) (hB : B ≤ w.heap.size) (hF : Fns B w AF fs) (hD : Ints B w AD dr) (hL : Ints B w AL fl) (hfo : FansOk nx fs) (hn : nx ≤ 24)
    (hdl : dr.length = nx) (hfl : fl.length = nx) (hdb : ∀ i, i < nx → -100000 ≤ dr.getD i 0 ∧ dr.getD i 0 ≤ 100000) (hfb : ∀ i, i < nx → -100000 ≤ fl.getD i 0 ∧ fl.getD i 0 ≤ 100000) :
    Calls Tryz.prog 112 #[.slice AF fs.length cf, .slice AD dr.length cd, .slice AL fl.length cl] w fun e w' => ∃ v, e = .returned v ∧ Own w.heap.size w' v (pushF fs fl dr) ∧ Below w.heap.size w w' := by
  have HFO := Lib.hid hfo
  have HDL := Lib.hid hdl
  have HFL := Lib.hid hfl
  have HDB := Lib.hid hdb
  have HFB := Lib.hid hfb
  have J0 := Lib.hid (hF.more hB)
  have JL := Lib.hid (hL.more hB)
  have h8 := hfo.few
  have hd24 : dr.length ≤ 24 := by omega
  have hf24 : fl.length ≤ 24 := by omega
  have HC := Lib.hid (l00Own_gen AD cd dr B w (by omega) hD)
  clear hF hD hL hfo hdl hfl hdb hfb
  go_enter Tryz.func112, Tryz.ntmps112
  go_wp2_with fail
  refine HC.out.mono ?_
  rintro e w1 ⟨v, rfl, ho1, hb1⟩
  obtain ⟨A1, c1, rfl, -, -⟩ := ho1.slice
  have HO1 := Lib.hid ho1
  clear ho1
  go_wp2_with fail
  go_loopw [8] (fun ii wr => ∃ k : Nat, k ≤ fs.length ∧ ii = .int .i64 k ∧ Below w.heap.size w wr ∧ Own w.heap.size wr (.slice A1 dr.length c1) (pushK fs fl dr k)) (fun ii _ => fs.length - (intOf ii).toNat)
  case atStart => exact ⟨0, Nat.zero_le _, rfl, hb1, HO1.out⟩
  case round =>
    obtain ⟨k, hk, rfl, hb, ho⟩ := hrel
    by_cases hlt : k < fs.length
    · obtain ⟨a, ha, hax⟩ := HFO.out.air k hlt
      have hcu := HFO.out.cur k hlt
      have hpb := pushK_bd (fl := fl) HFO.out HDL.out HDB.out k (by omega) a hax
      have hfb := HFB.out a hax
      obtain ⟨⟨s, a', cv⟩, hx⟩ : ∃ x, fs.getD k nFa = x := ⟨_, rfl⟩
      have hst := pushK_step (fl := fl) (dr := dr) ha hx
      rw [hx] at ha hcu
      have ha : a' = (a : Int) := ha
      subst ha
      have hcu : Curved cv := hcu
      have hpr := pressF_bd hcu (fl.getD a 0)
      obtain ⟨b, o, A', c', rfl, hab, f0, f1, f2, hcv⟩ := (J0.out.below hb).at_ hlt hx
      obtain ⟨g, rfl, hg1, hrow⟩ := ho.row (n := dr.length) (by have := HDL.out; omega) (pushK_length _ _ _ _)
      have hca := row_cell hrow (pushK_length _ _ _ _) (i := a) (by have := HDL.out; omega)
      have hfr := row_free hrow a
      obtain ⟨adl, rfl, hal, hcl⟩ := (JL.out.below hb).atD (k := a) (by have := HFL.out; omega)
      have hglt := row_lt hrow
      have hsz := hb.size
      have HCV := Lib.hid (hcv.more (B' := wr.heap.size) (by omega))
      have i0 : (0 : Int) ≤ (k : Int) := by omega
      have i1 : (k : Int) < fs.length := by omega
      have z0 : (0 : Int) ≤ (a : Int) := by omega
      have z1 : (a : Int) < dr.length := by have := HDL.out; omega
      have z2 : (a : Int) < fl.length := by have := HFL.out; omega
      have HP2 := Lib.hid (fun L : Later wr => l06Pressure_any b (o + k * 3) A' c' cv (fl.getD a 0) wr.heap.size L.world (HCV.out.below L.below) (L.cell f2) hcu hfb)
      have HROW := Lib.hid hrow
      have HBW := Lib.hid hb
      have HST := Lib.hid hst
      clear hst hx hrow ho hcu hcv HCV
      generalize pressF cv (fl.getD a 0) = p at *
      generalize fl.getD a 0 = q at *
      have HPL := Lib.hid (pushK_length fs fl dr k)
      generalize pushK fs fl dr k = D at *
      generalize D.getD a 0 = x at *
      have g1 := fun L : Later wr => L.cell f1
      have gp := fun L : Later wr => L.cell hca
      have gq := fun L : Later wr => L.cell hcl
      go_wp2_with fail
      refine wp_region_end (by kernel_rfl) (by kernel_rfl) (by kernel_rfl) ?_
      simp only [muteEnd, mute, theEnd]
      repeat (go_big_quiet_step ((go_at_call 148; first | (with_reducible exact later_b (HP2.out _)) | (with_reducible exact later_d (HP2.out _)) | (with_reducible exact later_s (HP2.out _)))))
      refine wpQuiet_nil ?_
      intro _ hw'
      obtain ⟨LL, hw''⟩ := hw'
      subst hw''
      have hfr3 := (LL.below.frozen (p := ⟨g, a, none⟩) hglt).trans hfr
      have hca3 := LL.cell hca
      have HROW3 := Lib.hid (row_on HROW.out LL.below)
      have HBW3 := Lib.hid (HBW.out.trans (LL.below.mono HBW.out.size))
      clear g1 gp gq
      generalize LL.world = w3 at *
      go_wp2_with fail
      go_roundw
      case rel => exact ⟨k + 1, by omega, by go_num, (fit_set ⟨HBW3.out, HROW3.out⟩ hg1 a (x + p)).1, by rw [HST.out]; exact Own.of_row (fit_set ⟨HBW3.out, HROW3.out⟩ hg1 a (x + p)).2 (by rw [List.length_set, HPL.out]) hg1⟩
      case measure => simp [intOf]; omega
    · obtain rfl : k = fs.length := by omega
      have HO := Lib.hid ho
      clear ho
      go_wp2
      go_ret
      exact ⟨_, rfl, HO.out, hb⟩
end Go.Proofs.YtejkoicgbgoiaaaGreat

/- Roots of numbers, rounded down: by the program and by the reference. Conditions: the bounds that each theorem names. -/
namespace Go.Proofs.YtejkoicgbgoiaaaGreat
open Go.RowKit
open Pl
theorem nat_sq (q : Nat) : (q : Int) * (q : Int) = ((q * q : Nat) : Int) := (Int.natCast_mul q q).symm
theorem root_lt {n : Int} {i : Nat} (h0 : 0 ≤ n) : rootN n.toNat ≤ i ↔ ((i : Int) + 1) * ((i : Int) + 1) > n := by
  have e : ((i : Int) + 1) * ((i : Int) + 1) = (((i + 1) * (i + 1) : Nat) : Int) := by rw [← nat_sq]; rfl
  rw [e]
  have h := sq_le_iff (n := n.toNat) (k := i + 1)
  constructor
  · intro h1
    have : ¬ (i + 1) * (i + 1) ≤ n.toNat := fun h2 => by have := h.1 h2; omega
    omega
  · intro h1
    have : ¬ (i + 1) ≤ rootN n.toNat := fun h2 => by have := h.2 h2; omega
    omega
theorem root_le {n : Int} {m : Nat} (h0 : 0 ≤ n) : m ≤ rootN n.toNat ↔ (m : Int) * (m : Int) ≤ n := by
  rw [nat_sq]
  have h := sq_le_iff (n := n.toNat) (k := m)
  constructor
  · intro h1; have := h.2 h1; omega
  · intro h1; exact h.1 (by omega)
theorem rootN_top {n : Int} (h0 : 0 ≤ n) (h1 : n ≤ 9223372036854775807) : rootN n.toNat ≤ 3037000499 := rootN_le (by omega)
theorem sq_bd {m : Nat} (h : m ≤ 3037000499) : 0 ≤ (m : Int) * (m : Int) ∧ (m : Int) * (m : Int) ≤ 9223372030926249001 := by
  have a := mul_le (a := (m : Int)) (b := (m : Int)) (A := 3037000499) (B := 3037000499) (by omega) (by omega) (by omega) (by omega)
  have b := mul_ge (a := (m : Int)) (b := (m : Int)) (by omega) (by omega)
  omega
theorem root1_any (bl : Nat) (n : Int) (h0 : 0 ≤ n) (i : Nat) (hi : i < 3037000499) (w : World) (hcl : w.cell? ⟨bl, 0, none⟩ = some (.int .i64 n)) :
    Calls Tryz.prog 166 #[.int .i64 (i : Int), .pointer (some ⟨bl, 0, none⟩)] w fun e w' => e = .returned (.bool (decide (rootN n.toNat ≤ i))) ∧ Below w.heap.size w w' := by
  have hq := sq_bd (m := i + 1) (by omega)
  have e : ((i + 1 : Nat) : Int) = (i : Int) + 1 := rfl
  rw [e] at hq
  rw [decide_eq_decide.2 (root_lt (i := i) h0)]
  go_enter Tryz.func166, Tryz.ntmps166
  go_wp2
  go_ret
  exact ⟨rfl, Below.refl _ _⟩
theorem RootOf_any (n : Int) (w : World) (h0 : 0 ≤ n) (h1 : n ≤ 9223372036854775807) :
    Calls Tryz.prog 133 #[.int .i64 n] w fun e w' => e = .returned (.int .i64 (rootF n)) ∧ Below w.heap.size w w' := by
  have hb0 : Below w.heap.size w (w.alloc (.cells #[.int .i64 n] 2)) := by go_grown
  have HC := Lib.hid (Search_any 166 #[.pointer (some ⟨w.heap.size, 0, none⟩)] (enters_of Tryz.func166 (by kernel_rfl) rfl) 3037000499 (rootN n.toNat) (by omega) (rootN_top h0 h1) (w.alloc (.cells #[.int .i64 n] 2)) (fun W i hb hi => root1_any w.heap.size n h0 i hi W (((bcell hb).1 _ _ (by simp)).trans (box1 _ _ _))))
  unfold rootF
  generalize rootN n.toNat = k at *
  go_enter Tryz.func133, Tryz.ntmps133
  go_wp2_with fail
  refine HC.out.mono ?_
  rintro e w2 ⟨rfl, hb2⟩
  go_wp2_with fail
  go_ret
  exact ⟨rfl, hb0.trans (hb2.mono hb0.size)⟩
theorem l01Root_any (n : Int) (w : World) (h0 : 0 ≤ n) (h1 : n ≤ 9223372036854775807) :
    Calls Tryz.prog 150 #[.int .i64 n] w fun e w' => e = .returned (.int .i64 (rootF n)) ∧ w = w' := by
  have ht := rootN_top h0 h1
  have HL := Lib.hid (fun m => root_le (n := n) (m := m) h0)
  unfold rootF
  generalize rootN n.toNat = r at *
  go_enter Tryz.func150, Tryz.ntmps150
  go_wp2
  go_loop [3, 4] (fun a b => ∃ lo hi : Nat, a = .int .i64 lo ∧ b = .int .i64 hi ∧ lo ≤ r ∧ r ≤ hi ∧ hi ≤ 3037000499) (fun a b => (intOf b).toNat - (intOf a).toNat)
  case atStart => exact ⟨0, 3037000499, rfl, rfl, by omega, by omega, by omega⟩
  case round =>
    obtain ⟨lo, hi, rfl, rfl, g1, g2, g3⟩ := hrel
    by_cases hlt : lo < hi
    · obtain ⟨m, hm⟩ : ∃ m : Nat, m = (lo + hi + 1) / 2 := ⟨_, rfl⟩
      have hmm : ((lo : Int) + (hi : Int) + 1) / 2 = (m : Int) := by omega
      have m1 : lo < m := by omega
      have m2 : m ≤ hi := by omega
      have hq := sq_bd (m := m) (by omega)
      have hl := HL.out m
      clear hm
      by_cases hp : (m : Int) * (m : Int) ≤ n
      · have hp2 := hl.2 hp
        clear hl
        go_wp2
        go_round
        case rel => exact ⟨m, hi, congrArg _ hmm, rfl, hp2, g2, g3⟩
        case measure => simp [intOf]; omega
      · have hp2 : r < m := by
          rcases Nat.lt_or_ge r m with h | h
          · exact h
          · exact absurd (hl.1 h) hp
        clear hl
        go_wp2
        go_round
        case rel => exact ⟨lo, m - 1, rfl, by congr 1; omega, g1, by omega, by omega⟩
        case measure => simp [intOf]; omega
    · obtain rfl : hi = lo := by omega
      obtain rfl : r = hi := by omega
      go_wp2
      go_ret
      exact ⟨rfl, rfl⟩
end Go.Proofs.YtejkoicgbgoiaaaGreat

/- Flows: the amount that is added along a walk, by the program and by the reference. Conditions: the facts on memory and on lengths that each theorem names. -/
namespace Go.Proofs.YtejkoicgbgoiaaaGreat
open Go.RowKit
open Pl
theorem rootF_bd {n : Int} (h0 : 0 ≤ n) (h1 : n ≤ 9223372036854775807) : 0 ≤ rootF n ∧ rootF n ≤ 3037000499 := by
  have := rootN_top h0 h1
  unfold rootF; omega
theorem div_bd {a b : Int} (ha : 0 ≤ a) (h2 : a ≤ 4000000000000000000) (hb : 1 ≤ b) : 0 ≤ a / b ∧ a / b ≤ 4000000000000000000 := by
  have h1 := Int.ediv_nonneg ha (show 0 ≤ b by omega)
  have h3 := Int.ediv_le_self b ha
  omega
/-- The three ways to a step. -/
theorem stepOf_rise {e ri al : Int} (h : 0 < ri) : stepOf e ri al = divR (-e * 10000000000) ri := by unfold stepOf; rw [if_pos h]
theorem stepOf_pos {e ri al : Int} (h : ¬ 0 < ri) (he : 0 < e) : stepOf e ri al = -rootF (e * 10000000000 / al) := by unfold stepOf; rw [if_neg h, if_pos he]
theorem stepOf_neg {e ri al : Int} (h : ¬ 0 < ri) (he : e < 0) : stepOf e ri al = rootF (-e * 10000000000 / al) := by unfold stepOf; rw [if_neg h, if_neg (by omega), if_pos he]
theorem stepOf_zero {ri al : Int} (h : ¬ 0 < ri) : stepOf 0 ri al = 0 := by unfold stepOf; rw [if_neg h, if_neg (by omega), if_neg (by omega)]
theorem rootF_zero : rootF 0 = 0 := by
  have : rootN 0 ≤ 0 := rootN_le (by omega)
  unfold rootF
  rw [show (0 : Int).toNat = 0 from rfl]; omega
theorem clip_eq (s : Int) : mx (-10000) (mn 10000 s) = mn (mx s (-10000)) 10000 := by
  unfold mx mn
  repeat' split
  all_goals omega
set_option maxRecDepth 100000 in
set_option maxHeartbeats 1600000 in
theorem stepOf_any (nx : Nat) (AW : Option Addr) (cw : Nat) (wk : List Int) (AR : Option Addr) (cr : Nat) (rs : List Int) (AP : Option Addr) (cp : Nat) (ps : List Int) (AL : Option Addr) (cl : Nat) (fl : List Int) (B : Nat) (w : World) (hW : Ints B w AW wk) (hR : Ints B w AR rs) (hP : Ints B w AP ps) (hL : Ints B w AL fl) (hs : SysOk nx rs ps fl) (hw : WalkOk nx wk) (hn : nx ≤ 24) (hk : wk.length ≤ 100) (hk0 : 0 < wk.length) :
    Calls Tryz.prog 98 #[.slice AW wk.length cw, .slice AR rs.length cr, .slice AP ps.length cp, .slice AL fl.length cl] w fun e w' => e = .returned (.int .i64 (stepW rs ps fl wk)) ∧ Below w.heap.size w w' := by
  have HS := Lib.hid hs
  have HW := Lib.hid hw
  have JW := Lib.hid hW
  have JR := Lib.hid hR
  have JL := Lib.hid hL
  have HLR := Lib.hid hs.lr
  have HLL := Lib.hid hs.lf
  have HC := Lib.hid (walkError_any nx AW cw wk AR cr rs AP cp ps AL cl fl B w hW hR hP hL hs hw hn hk)
  obtain ⟨R, hRR⟩ : ∃ R, R = stepW rs ps fl wk := ⟨_, rfl⟩
  have heb := errK_bd hs hw wk.length (Nat.le_refl _)
  have hrb := riseK_bd hs hw wk.length (Nat.le_refl _)
  have hab := allK_bd hs hw wk.length (Nat.le_refl _)
  have HR : Hid (R = mn (mx (stepOf (errW rs ps fl wk) (riseK rs fl wk wk.length) (allK rs wk wk.length)) (-10000)) 10000) := Lib.hid hRR
  rw [← hRR]
  have HE0 : Hid (errK rs ps fl wk wk.length = errW rs ps fl wk) := Lib.hid rfl
  rw [HE0.out] at heb
  clear hs hw hW hR hP hL hRR HE0
  generalize errW rs ps fl wk = e at *
  go_enter Tryz.func98, Tryz.ntmps98
  go_wp2_with fail
  refine HC.out.mono ?_
  rintro e' w1 ⟨rfl, nd, rfl⟩
  go_wp2_with fail
  go_loopw [10, 11, 24] (fun u v ii wr => ∃ k : Nat, k ≤ wk.length ∧ ii = .int .i64 k ∧ u = .int .i64 (riseK rs fl wk k) ∧ v = .int .i64 (allK rs wk k) ∧ ∃ n, w.drewN n = wr) (fun _ _ ii _ => wk.length - (intOf ii).toNat)
  case atStart => exact ⟨0, Nat.zero_le _, rfl, rfl, rfl, _, rfl⟩
  case round =>
    obtain ⟨k, hkl, rfl, rfl, rfl, nd', rfl⟩ := hrel
    by_cases hlt : k < wk.length
    · obtain ⟨hn0, hix, hna⟩ := HW.out k hlt
      obtain ⟨ad, rfl, -, hc⟩ := JW.out.atD hlt
      have hRb := riseK_bd HS.out HW.out k (by omega)
      have hAb := allK_bd HS.out HW.out k (by omega)
      have h1 := HS.out.res _ hix
      have h3 := HS.out.flo _ hix
      have h5 := rise1_bd h1.1 h1.2 h3.1 h3.2
      have hst : riseK rs fl wk (k + 1) = riseK rs fl wk k + 2 * rs.getD (ixI (wk.getD k 0)) 0 * ((fl.getD (ixI (wk.getD k 0)) 0).natAbs : Int) := rfl
      have hst2 : allK rs wk (k + 1) = allK rs wk k + rs.getD (ixI (wk.getD k 0)) 0 := rfl
      obtain ⟨adr, rfl, -, hcr⟩ := JR.out.atD (k := ixI (wk.getD k 0)) (by have := HLR.out; omega)
      obtain ⟨adl, rfl, -, hcl⟩ := JL.out.atD (k := ixI (wk.getD k 0)) (by have := HLL.out; omega)
      have z1 : (ixI (wk.getD k 0) : Int) < rs.length := by have := HLR.out; omega
      have z3 : (ixI (wk.getD k 0) : Int) < fl.length := by have := HLL.out; omega
      have HA := Lib.hid (fun W => airwayOf_any (wk.getD k 0) W hn0 (by omega))
      have HD := Lib.hid (fun W => abs_any (fl.getD (ixI (wk.getD k 0)) 0) W (by omega) (by omega))
      have HST := Lib.hid hst
      have HST2 := Lib.hid hst2
      clear hst hst2
      generalize ((fl.getD (ixI (wk.getD k 0)) 0).natAbs : Int) = na at *
      generalize rs.getD (ixI (wk.getD k 0)) 0 = r at *
      generalize fl.getD (ixI (wk.getD k 0)) 0 = q at *
      generalize ixI (wk.getD k 0) = i at *
      generalize sgI (wk.getD k 0) = sg at *
      generalize wk.getD k 0 = n at *
      generalize riseK rs fl wk k = ri at *
      generalize allK rs wk k = al at *
      have i0 : (0 : Int) ≤ (k : Int) := by omega
      have i1 : (k : Int) < wk.length := by omega
      have z0 : (0 : Int) ≤ (i : Int) := by omega
      go_wp2_with (go_at_call 131; refine (HA.out _).mono ?_; rintro e w' ⟨rfl, rfl⟩)
      go_big_quiet ((go_at_call 96; first | (with_reducible exact quiet_s (HD.out _)) | (with_reducible exact quiet_s2 (HD.out _))))
      go_wp2
      go_roundw
      case rel => exact ⟨k + 1, by omega, by go_num, by rw [HST.out], by rw [HST2.out], _, rfl⟩
      case measure => simp [intOf]; omega
    · obtain rfl : k = wk.length := by omega
      generalize riseK rs fl wk wk.length = ri at *
      generalize allK rs wk wk.length = al at *
      by_cases hri : 0 < ri
      · have HS1 := Lib.hid (stepOf_rise (e := e) (al := al) hri)
        have hd1 := divR_le (a := -e * 10000000000) (b := ri) (c := 2000000000000000000) (by omega) (by omega) (by omega)
        have hd2 := le_divR (a := -e * 10000000000) (b := ri) (c := 2000000000000000000) (by omega) (by omega) (by omega)
        have HD := Lib.hid (fun W => divRound_any (-e * 10000000000) ri W (by omega) (by omega) (by omega) (by omega))
        generalize divR (-e * 10000000000) ri = s at *
        go_wp2_with (go_at_call 132; refine (HD.out _).mono ?_; rintro e w' ⟨rfl, _, rfl⟩)
        all_goals go_ret
        all_goals exact ⟨ret_int (by rw [HR.out, HS1.out]; unfold mn mx; repeat' split <;> omega), by first | exact below_drewN (Below.refl _ _) _ | exact below_drewN (below_drewN (Below.refl _ _) _) _⟩
      · rcases Int.lt_trichotomy e 0 with he | he | he
        · have HS1 := Lib.hid (stepOf_neg (al := al) hri he)
          have hdv := div_bd (a := -e * 10000000000) (b := al) (by omega) (by omega) (by omega)
          have hrt := rootF_bd (n := -e * 10000000000 / al) (by omega) (by omega)
          have HD := Lib.hid (fun W => RootOf_any (-e * 10000000000 / al) W (by omega) (by omega))
          generalize rootF (-e * 10000000000 / al) = s at *
          go_wp2_with fail
          refine (HD.out _).mono ?_
          rintro e' w2 ⟨rfl, hb2⟩
          go_wp2_with fail
          all_goals go_ret
          all_goals exact ⟨ret_int (by rw [HR.out, HS1.out]; unfold mn mx; repeat' split <;> omega), (below_drewN (Below.refl _ _) _).trans hb2⟩
        · subst he
          have HS1 := Lib.hid (stepOf_zero (al := al) hri)
          go_wp2_with fail
          all_goals go_ret
          all_goals exact ⟨ret_int (by rw [HR.out, HS1.out]; rfl), below_drewN (Below.refl _ _) _⟩
        · have HS1 := Lib.hid (stepOf_pos (al := al) hri he)
          have hdv := div_bd (a := e * 10000000000) (b := al) (by omega) (by omega) (by omega)
          have hrt := rootF_bd (n := e * 10000000000 / al) (by omega) (by omega)
          have HD := Lib.hid (fun W => RootOf_any (e * 10000000000 / al) W (by omega) (by omega))
          generalize rootF (e * 10000000000 / al) = s at *
          go_wp2_with fail
          refine (HD.out _).mono ?_
          rintro e' w2 ⟨rfl, hb2⟩
          go_wp2_with fail
          all_goals go_ret
          all_goals exact ⟨ret_int (by rw [HR.out, HS1.out]; unfold mn mx; repeat' split <;> omega), (below_drewN (Below.refl _ _) _).trans hb2⟩
set_option maxRecDepth 100000 in
set_option maxHeartbeats 1600000 in
theorem l07Step_any (nx : Nat) (AW : Option Addr) (cw : Nat) (wk : List Int) (AR : Option Addr) (cr : Nat) (rs : List Int) (AP : Option Addr) (cp : Nat) (ps : List Int) (AL : Option Addr) (cl : Nat) (fl : List Int) (B : Nat) (w : World) (hW : Ints B w AW wk) (hR : Ints B w AR rs) (hP : Ints B w AP ps) (hL : Ints B w AL fl) (hs : SysOk nx rs ps fl) (hw : WalkOk nx wk) (hn : nx ≤ 24) (hk : wk.length ≤ 100) (hk0 : 0 < wk.length) :
    Calls Tryz.prog 113 #[.slice AR rs.length cr, .slice AP ps.length cp, .slice AL fl.length cl, .slice AW wk.length cw] w fun e w' => e = .returned (.int .i64 (stepW rs ps fl wk)) ∧ ∃ n, w.drewN n = w' := by
  have HS := Lib.hid hs
  have HW := Lib.hid hw
  have JW := Lib.hid hW
  have JR := Lib.hid hR
  have JL := Lib.hid hL
  have HLR := Lib.hid hs.lr
  have HLL := Lib.hid hs.lf
  have HC := Lib.hid (l07Error_any nx AW cw wk AR cr rs AP cp ps AL cl fl B w hW hR hP hL hs hw hn hk)
  obtain ⟨R, hRR⟩ : ∃ R, R = stepW rs ps fl wk := ⟨_, rfl⟩
  have heb := errK_bd hs hw wk.length (Nat.le_refl _)
  have hrb := riseK_bd hs hw wk.length (Nat.le_refl _)
  have hab := allK_bd hs hw wk.length (Nat.le_refl _)
  have HR : Hid (R = mx (-10000) (mn 10000 (stepOf (errW rs ps fl wk) (riseK rs fl wk wk.length) (allK rs wk wk.length)))) := Lib.hid (by rw [clip_eq]; exact hRR)
  rw [← hRR]
  have HE0 : Hid (errK rs ps fl wk wk.length = errW rs ps fl wk) := Lib.hid rfl
  rw [HE0.out] at heb
  clear hs hw hW hR hP hL hRR HE0
  generalize errW rs ps fl wk = e at *
  go_enter Tryz.func113, Tryz.ntmps113
  go_wp2_with fail
  refine HC.out.mono ?_
  rintro e' w1 ⟨rfl, nd, rfl⟩
  go_wp2_with fail
  go_loopw [10, 11, 12] (fun u v ii wr => ∃ k : Nat, k ≤ wk.length ∧ ii = .int .i64 k ∧ u = .int .i64 (riseK rs fl wk k) ∧ v = .int .i64 (allK rs wk k) ∧ ∃ n, w.drewN n = wr) (fun _ _ ii _ => wk.length - (intOf ii).toNat)
  case atStart => exact ⟨0, Nat.zero_le _, rfl, rfl, rfl, _, rfl⟩
  case round =>
    obtain ⟨k, hkl, rfl, rfl, rfl, nd', rfl⟩ := hrel
    by_cases hlt : k < wk.length
    · obtain ⟨hn0, hix, hna⟩ := HW.out k hlt
      obtain ⟨ad, rfl, -, hc⟩ := JW.out.atD hlt
      have hRb := riseK_bd HS.out HW.out k (by omega)
      have hAb := allK_bd HS.out HW.out k (by omega)
      have h1 := HS.out.res _ hix
      have h3 := HS.out.flo _ hix
      have h5 := rise1_bd h1.1 h1.2 h3.1 h3.2
      have hst : riseK rs fl wk (k + 1) = riseK rs fl wk k + 2 * rs.getD (ixI (wk.getD k 0)) 0 * ((fl.getD (ixI (wk.getD k 0)) 0).natAbs : Int) := rfl
      have hst2 : allK rs wk (k + 1) = allK rs wk k + rs.getD (ixI (wk.getD k 0)) 0 := rfl
      obtain ⟨adr, rfl, -, hcr⟩ := JR.out.atD (k := ixI (wk.getD k 0)) (by have := HLR.out; omega)
      obtain ⟨adl, rfl, -, hcl⟩ := JL.out.atD (k := ixI (wk.getD k 0)) (by have := HLL.out; omega)
      have z1 : (ixI (wk.getD k 0) : Int) < rs.length := by have := HLR.out; omega
      have z3 : (ixI (wk.getD k 0) : Int) < fl.length := by have := HLL.out; omega
      have HA := Lib.hid (fun W => absS_any (wk.getD k 0) W (by omega) (by omega))
      have hia := ix_abs hn0
      have HD := Lib.hid (fun W => absS_any (fl.getD (ixI (wk.getD k 0)) 0) W (by omega) (by omega))
      have HST := Lib.hid hst
      have HST2 := Lib.hid hst2
      clear hst hst2
      generalize ((fl.getD (ixI (wk.getD k 0)) 0).natAbs : Int) = na at *
      generalize rs.getD (ixI (wk.getD k 0)) 0 = r at *
      generalize fl.getD (ixI (wk.getD k 0)) 0 = q at *
      generalize ixI (wk.getD k 0) = i at *
      generalize wk.getD k 0 = n at *
      generalize riseK rs fl wk k = ri at *
      generalize allK rs wk k = al at *
      have i0 : (0 : Int) ≤ (k : Int) := by omega
      have i1 : (k : Int) < wk.length := by omega
      have z0 : (0 : Int) ≤ (i : Int) := by omega
      generalize (n.natAbs : Int) = nb at *
      go_wp2_with (go_at_call 146; refine (HA.out _).mono ?_; rintro e w' ⟨rfl, rfl⟩)
      go_big_quiet ((go_at_call 146; first | (with_reducible exact quiet_s (HD.out _)) | (with_reducible exact quiet_s2 (HD.out _))))
      go_wp2
      go_roundw
      case rel => exact ⟨k + 1, by omega, by go_num, by rw [HST.out], by rw [HST2.out], _, rfl⟩
      case measure => simp [intOf]; omega
    · obtain rfl : k = wk.length := by omega
      generalize riseK rs fl wk wk.length = ri at *
      generalize allK rs wk wk.length = al at *
      by_cases hri : 0 < ri
      · have HS1 := Lib.hid (stepOf_rise (e := e) (al := al) hri)
        have HD := Lib.hid (fun W => l01Div_any (-e * 10000000000) ri W (by omega) (by omega) (by omega) (by omega))
        generalize divR (-e * 10000000000) ri = s at *
        go_wp2_with (first | (go_at_call 149; refine (HD.out _).mono ?_; rintro e w' ⟨rfl, rfl⟩) | (go_at_call 151; refine (l00Min_any _ _ _).mono ?_; rintro e w' ⟨rfl, rfl⟩) | (go_at_call 141; refine (l00Max_any _ _ _).mono ?_; rintro e w' ⟨rfl, rfl⟩))
        go_ret
        exact ⟨ret_int (by rw [HR.out, HS1.out]), _, rfl⟩
      · rcases Int.lt_trichotomy e 0 with he | he | he
        · have HS1 := Lib.hid (stepOf_neg (al := al) hri he)
          have hdv := div_bd (a := -e * 10000000000) (b := al) (by omega) (by omega) (by omega)
          have hrt := rootF_bd (n := -e * 10000000000 / al) (by omega) (by omega)
          have HD := Lib.hid (fun W => l01Root_any (-e * 10000000000 / al) W (by omega) (by omega))
          have HA := Lib.hid (fun W => absS_any e W (by omega) (by omega))
          rw [show (e.natAbs : Int) = -e by omega] at HA
          generalize rootF (-e * 10000000000 / al) = s at *
          go_wp2_with (first | (go_at_call 146; refine (HA.out _).mono ?_; rintro e w' ⟨rfl, rfl⟩) | (go_at_call 150; refine (HD.out _).mono ?_; rintro e w' ⟨rfl, rfl⟩) | (go_at_call 151; refine (l00Min_any _ _ _).mono ?_; rintro e w' ⟨rfl, rfl⟩) | (go_at_call 141; refine (l00Max_any _ _ _).mono ?_; rintro e w' ⟨rfl, rfl⟩))
          go_ret
          exact ⟨ret_int (by rw [HR.out, HS1.out]), _, rfl⟩
        · subst he
          have HS1 := Lib.hid (stepOf_zero (al := al) hri)
          have HD := Lib.hid (fun W => l01Root_any 0 W (by omega) (by omega))
          rw [rootF_zero] at HD
          have HA := Lib.hid (fun W => absS_any 0 W (by omega) (by omega))
          have hz : (0 : Int) / al = 0 := Int.zero_ediv _
          go_wp2_with (first | (go_at_call 146; refine (HA.out _).mono ?_; rintro e w' ⟨rfl, rfl⟩) | (go_at_call 150; refine (HD.out _).mono ?_; rintro e w' ⟨rfl, rfl⟩) | (go_at_call 151; refine (l00Min_any _ _ _).mono ?_; rintro e w' ⟨rfl, rfl⟩) | (go_at_call 141; refine (l00Max_any _ _ _).mono ?_; rintro e w' ⟨rfl, rfl⟩))
          go_ret
          exact ⟨ret_int (by rw [HR.out, HS1.out]), _, rfl⟩
        · have HS1 := Lib.hid (stepOf_pos (al := al) hri he)
          have hdv := div_bd (a := e * 10000000000) (b := al) (by omega) (by omega) (by omega)
          have hrt := rootF_bd (n := e * 10000000000 / al) (by omega) (by omega)
          have HD := Lib.hid (fun W => l01Root_any (e * 10000000000 / al) W (by omega) (by omega))
          have HA := Lib.hid (fun W => absS_any e W (by omega) (by omega))
          rw [show (e.natAbs : Int) = e by omega] at HA
          generalize rootF (e * 10000000000 / al) = s at *
          go_wp2_with (first | (go_at_call 146; refine (HA.out _).mono ?_; rintro e w' ⟨rfl, rfl⟩) | (go_at_call 150; refine (HD.out _).mono ?_; rintro e w' ⟨rfl, rfl⟩) | (go_at_call 151; refine (l00Min_any _ _ _).mono ?_; rintro e w' ⟨rfl, rfl⟩) | (go_at_call 141; refine (l00Max_any _ _ _).mono ?_; rintro e w' ⟨rfl, rfl⟩))
          go_ret
          exact ⟨ret_int (by rw [HR.out, HS1.out]), _, rfl⟩
end Go.Proofs.YtejkoicgbgoiaaaGreat
