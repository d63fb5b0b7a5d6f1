/- Proved here: the parts Tail, Push, Root, Step, Add, SolP, SolI of the row's proof, joined by a program. Conditions: as each part says. -/
import Derived.Test.YtejkoicgbgoiaaaGreatFm8
import Derived.BigQuiet
import Derived.Deep.DeepCutAuto
/- A region that draws its order, whose operations but the last one only read or call, and whose last one (a store) waits for all the others: one walk of the text's order serves every order, and the last operation runs in a later world. No conditions. -/
namespace Go.Proofs.YtejkoicgbgoiaaaGreat
open Go.RowKit
/-- An operation that does nothing, in the place of another one. -/
def mute (o : Oper) : Oper := { o with op := .move (.const undef), dst := none }
def muteEnd : List Oper → List Oper
  | [] => []
  | [o] => [mute o]
  | o :: o' :: l => o :: muteEnd (o' :: l)
def theEnd : List Oper → List Oper
  | [] => []
  | [o] => [o]
  | _ :: o' :: l => theEnd (o' :: l)
/-- What is asked of such a region: no guards; the edges lead back; the last one names no temporary and waits for each other one. -/
def endB (l : List Oper) : Bool :=
  (theEnd l).all (fun o => o.dst.isNone && (List.range (l.length - 1)).all (fun i => o.after.any fun e => Region.binds .any e && e.on == i)) && !l.isEmpty &&
    l.all (fun o => o.guard.isNone) && (List.range l.length).all (fun i => (l[i]?).all fun o => o.after.all fun e => decide (e.on < i))
theorem mute_app : ∀ (l0 : List Oper) (o : Oper), muteEnd (l0 ++ [o]) = l0 ++ [mute o] ∧ theEnd (l0 ++ [o]) = [o]
  | [], o => ⟨rfl, rfl⟩
  | [x], o => ⟨rfl, rfl⟩
  | x :: y :: l, o => by
    obtain ⟨h1, h2⟩ := mute_app (y :: l) o
    have e1 : muteEnd (x :: y :: l ++ [o]) = x :: muteEnd (y :: l ++ [o]) := rfl
    have e2 : theEnd (x :: y :: l ++ [o]) = theEnd (y :: l ++ [o]) := rfl
    rw [e1, e2, h1, h2]
    exact ⟨rfl, rfl⟩
theorem app_last {α : Type} : ∀ (l : List α), l ≠ [] → ∃ l0 o, l = l0 ++ [o]
  | [], h => absurd rfl h
  | [x], _ => ⟨[], x, rfl⟩
  | x :: y :: l, _ => by
    obtain ⟨l0, o, e⟩ := app_last (y :: l) (by simp)
    exact ⟨x :: l0, o, by rw [e]; rfl⟩
section
variable {P : Program} {C : World → Prop} {Q : Exit → Act → World → Prop} {l0 : List Oper} {o : Oper}
theorem get_other {j : Nat} (h : j ≠ l0.length) : (l0 ++ [mute o]).toArray[j]? = (l0 ++ [o]).toArray[j]? := by
  simp only [List.getElem?_toArray]
  rcases Nat.lt_or_ge j l0.length with h' | h'
  · rw [List.getElem?_append_left h', List.getElem?_append_left h']
  · rw [List.getElem?_eq_none (by simp; omega), List.getElem?_eq_none (by simp; omega)]
theorem get_end (o : Oper) : (l0 ++ [o]).toArray[l0.length]? = some o := by simp
theorem ready_mute {md : Region.Mode} {listed : Array Bool} {j : Nat} : j ∈ Region.ready md (l0 ++ [mute o]).toArray listed ↔ j ∈ Region.ready md (l0 ++ [o]).toArray listed := by
  rw [mem_ready, mem_ready]
  by_cases e : j = l0.length
  · subst e
    rw [get_end, get_end]
    constructor
    · rintro ⟨h, o', h1, h2⟩; injection h1 with h1; subst h1; exact ⟨h, o, rfl, h2⟩
    · rintro ⟨h, o', h1, h2⟩; injection h1 with h1; subst h1; exact ⟨h, mute o, rfl, h2⟩
  · rw [get_other e]
theorem getD_tf {listed : Array Bool} {i : Nat} (hi : i < listed.size) (h : ¬ listed.getD i false = true) : listed.getD i true = false := by
  simp [hi] at h ⊢; exact h
theorem ready_some {md : Region.Mode} {ops : Array Oper} (hb : ∀ (i : Nat) (o : Oper), ops[i]? = some o → ∀ e ∈ o.after, e.on < i) {listed : Array Bool} (hs : listed.size = ops.size) :
    ∀ m, m < ops.size → listed.getD m true = false → ∃ j, j ∈ Region.ready md ops listed := by
  intro m
  induction m using Nat.strongRecOn with
  | ind m ih =>
    intro hm hu
    by_cases hr : m ∈ Region.ready md ops listed
    · exact ⟨m, hr⟩
    · have ho : ops[m]? = some ops[m] := Array.getElem?_eq_getElem hm
      have hex : ∃ e ∈ ops[m].after, Region.binds md e = true ∧ ¬ listed.getD e.on false = true := by
        by_cases hall : ∀ e ∈ ops[m].after, Region.binds md e = true → listed.getD e.on false = true
        · exact absurd (mem_ready.2 ⟨hu, _, ho, hall⟩) hr
        · obtain ⟨e, he⟩ := Classical.not_forall.1 hall
          obtain ⟨h1, h2⟩ := Classical.not_imp.1 he
          obtain ⟨h2, h3⟩ := Classical.not_imp.1 h2
          exact ⟨e, h1, h2, h3⟩
      obtain ⟨e, he, _, hl⟩ := hex
      have hlt := hb m _ ho e he
      exact ih e.on hlt (by omega) (getD_tf (by omega) hl)
theorem ready_none {md : Region.Mode} {listed : Array Bool} (hw : ∀ i, i < l0.length → ∃ e ∈ o.after, Region.binds md e = true ∧ e.on = i) (hs : listed.size = l0.length + 1)
    (h : l0.length ∈ Region.ready md (l0 ++ [o]).toArray listed) : Region.ready md (l0 ++ [o]).toArray (listed.setIfInBounds l0.length true) = [] := by
  rw [List.eq_nil_iff_forall_not_mem]
  intro j hj
  obtain ⟨h1, o', h2, _⟩ := mem_ready.1 hj
  have hjl : j < l0.length + 1 := by
    have := (Array.getElem?_eq_some_iff.1 h2).1
    simpa using this
  by_cases e : j = l0.length
  · subst e
    simp [hs] at h1
  · obtain ⟨_, o2, g1, g2⟩ := mem_ready.1 h
    rw [get_end] at g1
    injection g1 with g1
    subst g1
    obtain ⟨e1, he1, hb1, hon⟩ := hw j (by omega)
    have g3 := g2 e1 he1 hb1
    rw [hon] at g3
    rw [getD_set_ne true (by omega)] at h1
    have hjs : j < listed.size := by omega
    simp [hjs] at g3 h1
    rw [g3] at h1
    cases h1
theorem wpAny_of_end (md : Region.Mode) (hg : ∀ o' ∈ l0 ++ [o], o'.guard = none) (hb : ∀ (i : Nat) (o' : Oper), (l0 ++ [o]).toArray[i]? = some o' → ∀ e ∈ o'.after, e.on < i) (hw : ∀ i, i < l0.length → ∃ e ∈ o.after, Region.binds md e = true ∧ e.on = i) :
    ∀ (fuel : Nat) (listed : Array Bool) (a : Act) (w : World), C w → listed.size = l0.length + 1 → listed.getD l0.length true = false →
      wpAnyQ P md (l0 ++ [mute o]).toArray C (fun a' => ∀ w', C w' → wpList P (l0 ++ [o]).toArray Q [o] a' w') fuel listed a → wpAny P md (l0 ++ [o]).toArray Q fuel listed a w := by
  have hsz : (l0 ++ [o]).toArray.size = l0.length + 1 := by simp
  have hwant : ∀ o' ∈ l0 ++ [o], ∀ y, Region.wanted o' y = true := fun o' h y => by unfold Region.wanted; rw [hg o' h]
  have hwm : ∀ y, Region.wanted (mute o) y = true := fun y => by
    have := hg o (by simp)
    unfold Region.wanted mute
    rw [this]
  have hno : ∀ (listed : Array Bool), listed.size = l0.length + 1 → listed.getD l0.length true = false → ∃ j, j ∈ Region.ready md (l0 ++ [o]).toArray listed := fun listed h1 h2 => ready_some hb (h1.trans hsz.symm) l0.length (by omega) h2
  intro fuel
  induction fuel with
  | zero =>
    intro listed a w _ h1 h2 h
    obtain ⟨j, hj⟩ := hno listed h1 h2
    have := ready_mute.2 hj
    rw [h.1] at this
    cases this
  | succ fuel ih =>
    intro listed a w hC h1 h2 h
    refine ⟨fun hr => ?_, fun i hi => ?_⟩
    · obtain ⟨j, hj⟩ := hno listed h1 h2
      rw [hr] at hj
      cases hj
    · have hq := h.2 i (ready_mute.2 hi)
      by_cases e : i = l0.length
      · subst e
        unfold qOp at hq
        rw [get_end] at hq
        dsimp only at hq
        rw [if_pos (hwm _)] at hq
        obtain ⟨v, _, hK⟩ := hq
        have hK : wpAnyQ P md (l0 ++ [mute o]).toArray C (fun a' => ∀ w', C w' → wpList P (l0 ++ [o]).toArray Q [o] a' w') fuel (listed.setIfInBounds l0.length true) a := hK
        have hrn := ready_none hw h1 hi
        have hrn' : Region.ready md (l0 ++ [mute o]).toArray (listed.setIfInBounds l0.length true) = [] := by
          rw [List.eq_nil_iff_forall_not_mem]
          intro j hj
          have := ready_mute.1 hj
          rw [hrn] at this
          cases this
        have hL : ∀ w', C w' → wpList P (l0 ++ [o]).toArray Q [o] a w' := by
          cases fuel with
          | zero => exact hK.2
          | succ f => exact hK.1 hrn'
        have h3 := hL w hC
        have h4 : wpOp P (l0 ++ [o]).toArray Q l0.length (fun a' w' => Q .normal a' w') a w := by
          unfold wpOp
          rw [get_end]
          exact h3
        refine wpOp_mono (fun a' w' hN => ?_) h4
        cases fuel with
        | zero => exact ⟨hrn, hN⟩
        | succ f => exact ⟨fun _ => hN, fun j hj => by rw [hrn] at hj; cases hj⟩
      · obtain ⟨_, o', ho', _⟩ := mem_ready.1 hi
        have hmem : o' ∈ l0 ++ [o] := by
          have := Array.mem_of_getElem? ho'
          simpa using this
        have hq' : qOp P (l0 ++ [o]).toArray C i (wpAnyQ P md (l0 ++ [mute o]).toArray C (fun a' => ∀ w', C w' → wpList P (l0 ++ [o]).toArray Q [o] a' w') fuel (listed.setIfInBounds i true)) a := by
          unfold qOp at hq ⊢
          rw [get_other e] at hq
          rw [ho'] at hq ⊢
          dsimp only at hq ⊢
          rw [if_pos (hwant o' hmem _)] at hq ⊢
          exact hq
        exact wpOp_of_qOp hC (fun a' w' hC' hK => ih _ a' w' hC' (by simpa using h1) (by rw [getD_set_ne true e]; exact h2) hK) hq'
end
theorem wp_region_end {P : Program} {id : Nat} {Q : Exit → Act → World → Prop} {a : Act} {w : World} {l : List Oper} (hm : P.follows .mixedOrders = true) (hB : Region.lexB .any (muteEnd l).toArray = true) (hE : endB l = true)
    (h : wpQuiet P (muteEnd l).toArray (fun w' => ∃ L : Later w, w' = L.world) (fun a' => ∀ w', (∃ L : Later w, w' = L.world) → wpList P l.toArray Q (theEnd l) a' w') (muteEnd l) a) : (Code.region id l.toArray true).wp P Q a w := by
  unfold endB at hE
  simp only [Bool.and_eq_true] at hE
  obtain ⟨⟨⟨hE, hne⟩, hg⟩, hb⟩ := hE
  obtain ⟨l0, o, rfl⟩ := app_last l (by intro e; rw [e] at hne; cases hne)
  obtain ⟨e1, e2⟩ := mute_app l0 o
  rw [e1] at hB h
  rw [e2] at h hE
  simp only [List.all_cons, List.all_nil, Bool.and_true, Bool.and_eq_true] at hE
  have hw : ∀ i, i < l0.length → ∃ e ∈ o.after, Region.binds .any e = true ∧ e.on = i := fun i hi => by
    have := List.all_eq_true.1 hE.2 i (List.mem_range.2 (by simp; omega))
    obtain ⟨e, he, h2⟩ := Array.any_eq_true'.1 this
    rw [Bool.and_eq_true, beq_iff_eq] at h2
    exact ⟨e, he, h2.1, h2.2⟩
  have hg' : ∀ o' ∈ l0 ++ [o], o'.guard = none := fun o' h' => by
    have := List.all_eq_true.1 hg o' h'
    simpa using this
  have hb' : ∀ (i : Nat) (o' : Oper), (l0 ++ [o]).toArray[i]? = some o' → ∀ e ∈ o'.after, e.on < i := fun i o' h' e he => by
    have hi : i < (l0 ++ [o]).length := by
      have := (Array.getElem?_eq_some_iff.1 h').1
      simpa using this
    have h3 := List.all_eq_true.1 hb i (List.mem_range.2 hi)
    have h4 : (l0 ++ [o])[i]? = some o' := by simpa using h'
    rw [h4] at h3
    have h5 : o'.after.all (fun e => decide (e.on < i)) = true := by simpa using h3
    exact of_decide_eq_true (Array.all_eq_true_iff_forall_mem.1 h5 e he)
  simp only [Region.lexB, Bool.and_eq_true] at hB
  refine wp_region_any hm ?_
  have H := wpAnyQ_lex (P := P) (C := fun w' => ∃ L : Later w, w' = L.world) (md := .any) hB.1 (l0 ++ [mute o]) 0 (Array.replicate (l0.length + 1) false) a (by simp) (by simpa using hB.2) h
  have hs : (l0 ++ [o]).toArray.size = l0.length + 1 := by simp
  rw [hs]
  rw [show (l0 ++ [mute o]).length = l0.length + 1 by simp] at H
  exact wpAny_of_end .any hg' hb' hw _ _ a _ ⟨⟨_, (Below.refl _ _).drew⟩, rfl⟩ (by simp) (by simp) H
end Go.Proofs.YtejkoicgbgoiaaaGreat

/- Flows: the pushes of fans and draught, by the program and by the reference. Conditions: the facts on memory and on lengths that each theorem names. -/
namespace Go.Proofs.YtejkoicgbgoiaaaGreat
open Go.RowKit
open Pl
theorem pushK_step {fs : List Fa} {fl dr : List Int} {k a : Nat} {s : ByteArray} {cv : List (List Int)} {a' : Int} (ha : (fs.getD k nFa).aw = a) (hx : fs.getD k nFa = ⟨s, a', cv⟩) :
    pushK fs fl dr (k + 1) = (pushK fs fl dr k).set a ((pushK fs fl dr k).getD a 0 + pressF cv (fl.getD a 0)) := by
  have e : pushK fs fl dr (k + 1) = (pushK fs fl dr k).set (fs.getD k nFa).aw.toNat ((pushK fs fl dr k).getD (fs.getD k nFa).aw.toNat 0 + pressF (fs.getD k nFa).cv (fl.getD (fs.getD k nFa).aw.toNat 0)) := rfl
  rw [e, ha, Int.toNat_natCast, hx]
/-- A cell of numbers that lie below B, in a later world, lies apart from a block from B on. -/
theorem cell_apart {w : World} {p ad : Addr} {v u : Value} (h : w.cell? ad = some u) (hne : p.block ≠ ad.block) : (w.setCell p v).cell? ad = some u := (World.cell?_setCell_far _ _ _ _ hne).trans h
theorem row_on {base n s : Nat} {w w' : World} {T : TypeId} {v : Value} {ys : List Value} (h : w.ownsRow base T s v n ys) (hb : Below w.heap.size w w') : w'.ownsRow base T s v n ys := by
  refine ⟨h.1, ?_⟩
  rcases h.2 with hn | ⟨g, cap, cur, e1, e2, e3, rest⟩
  · exact .inl hn
  · exact .inr ⟨g, cap, cur, e1, e2, (hb.block g (Array.getElem?_eq_some_iff.1 e3).1).trans e3, rest⟩
set_option maxRecDepth 100000 in
set_option maxHeartbeats 3200000 in
theorem pushesOf_any (nx : Nat) (AF : Option Addr) (cf : Nat) (fs : List Fa) (AD : Option Addr) (cd : Nat) (dr : List Int) (AL : Option Addr) (cl : Nat) (fl : List Int) (B : Nat) (w : World) (hB : B ≤ w.heap.size) (hF : Fns B w AF fs) (hD : Ints B w AD dr) (hL : Ints B w AL fl) (hfo : FansOk nx fs) (hn : nx ≤ 24)
    (hdl : dr.length = nx) (hfl : fl.length = nx) (hdb : ∀ i, i < nx → -100000 ≤ dr.getD i 0 ∧ dr.getD i 0 ≤ 100000) (hfb : ∀ i, i < nx → -100000 ≤ fl.getD i 0 ∧ fl.getD i 0 ≤ 100000) :
    Calls Tryz.prog 95 #[.slice AF fs.length cf, .slice AD dr.length cd, .slice AL fl.length cl] w fun e w' => ∃ v, e = .returned v ∧ Own w.heap.size w' v (pushF fs fl dr) ∧ Below w.heap.size w w' := by
  have HFO := Lib.hid hfo
  have HDL := Lib.hid hdl
  have HFL := Lib.hid hfl
  have HDB := Lib.hid hdb
  have HFB := Lib.hid hfb
  have J0 := Lib.hid (hF.more hB)
  have JL := Lib.hid (hL.more hB)
  have h8 := hfo.few
  have hd24 : dr.length ≤ 24 := by omega
  have hf24 : fl.length ≤ 24 := by omega
  have HC := Lib.hid (Clone_any AD cd dr B w (by omega) hD)
  clear hF hD hL hfo hdl hfl hdb hfb
  go_enter Tryz.func95, Tryz.ntmps95
  go_wp2_with fail
  refine HC.out.mono ?_
  rintro e w1 ⟨v, rfl, ho1, hb1⟩
  obtain ⟨A1, c1, rfl, -, -⟩ := ho1.slice
  have HO1 := Lib.hid ho1
  clear ho1
  go_wp2_with fail
  go_loopw [14] (fun ii wr => ∃ k : Nat, k ≤ fs.length ∧ ii = .int .i64 k ∧ Below w.heap.size w wr ∧ Own w.heap.size wr (.slice A1 dr.length c1) (pushK fs fl dr k)) (fun ii _ => fs.length - (intOf ii).toNat)
  case atStart => exact ⟨0, Nat.zero_le _, rfl, hb1, HO1.out⟩
  case round =>
    obtain ⟨k, hk, rfl, hb, ho⟩ := hrel
    by_cases hlt : k < fs.length
    · obtain ⟨a, ha, hax⟩ := HFO.out.air k hlt
      have hcu := HFO.out.cur k hlt
      have hpb := pushK_bd (fl := fl) HFO.out HDL.out HDB.out k (by omega) a hax
      have hfb := HFB.out a hax
      obtain ⟨⟨s, a', cv⟩, hx⟩ : ∃ x, fs.getD k nFa = x := ⟨_, rfl⟩
      have hst := pushK_step (fl := fl) (dr := dr) ha hx
      rw [hx] at ha hcu
      have ha : a' = (a : Int) := ha
      subst ha
      have hcu : Curved cv := hcu
      have hpr := pressF_bd hcu (fl.getD a 0)
      obtain ⟨b, o, A', c', rfl, hab, f0, f1, f2, hcv⟩ := (J0.out.below hb).at_ hlt hx
      obtain ⟨g, rfl, hg1, hrow⟩ := ho.row (n := dr.length) (by have := HDL.out; omega) (pushK_length _ _ _ _)
      have hca := row_cell hrow (pushK_length _ _ _ _) (i := a) (by have := HDL.out; omega)
      have hfr := row_free hrow a
      obtain ⟨adl, rfl, hal, hcl⟩ := (JL.out.below hb).atD (k := a) (by have := HFL.out; omega)
      have hglt := row_lt hrow
      have hsz := hb.size
      have hba : Below wr.heap.size wr (wr.alloc (.cells #[.string s, .int .i64 (a : Int), .slice A' cv.length c'] 74)) := (Below.refl _ _).alloc (Nat.le_refl _) _
      have a0 : ((wr.alloc (.cells #[.string s, .int .i64 (a : Int), .slice A' cv.length c'] 74))).cell? ⟨wr.heap.size, 0, none⟩ = some (.string s) := by go_simp
      have a1 : ((wr.alloc (.cells #[.string s, .int .i64 (a : Int), .slice A' cv.length c'] 74))).cell? ⟨wr.heap.size, 1, none⟩ = some (.int .i64 (a : Int)) := by go_simp
      have a2 : ((wr.alloc (.cells #[.string s, .int .i64 (a : Int), .slice A' cv.length c'] 74))).cell? ⟨wr.heap.size, 2, none⟩ = some (.slice A' cv.length c') := by go_simp
      have hca' := cell_later hba hca
      have hcl' := cell_later hba hcl
      have hfr' : ((wr.alloc (.cells #[.string s, .int .i64 (a : Int), .slice A' cv.length c'] 74))).frozen? ⟨g, a, none⟩ = false := (hba.frozen (p := ⟨g, a, none⟩) hglt).trans hfr
      have hrow' := World.ownsRow.alloc hrow (.cells #[.string s, .int .i64 (a : Int), .slice A' cv.length c'] 74)
      have hbw : Below w.heap.size w (wr.alloc (.cells #[.string s, .int .i64 (a : Int), .slice A' cv.length c'] 74)) := hb.trans (hba.mono hsz)
      have HCV := Lib.hid (hcv.more (B' := wr.heap.size) (by omega))
      have i0 : (0 : Int) ≤ (k : Int) := by omega
      have i1 : (k : Int) < fs.length := by omega
      have z0 : (0 : Int) ≤ (a : Int) := by omega
      have z1 : (a : Int) < dr.length := by have := HDL.out; omega
      have z2 : (a : Int) < fl.length := by have := HFL.out; omega
      have HP := Lib.hid (fun (W : World) (hW : Below wr.heap.size wr W) => pressure_any s (a : Int) A' c' cv (fl.getD a 0) wr.heap.size W (HCV.out.below hW) hW.size hcu hfb)
      have HROW := Lib.hid hrow'
      have HBW := Lib.hid hbw
      have HBA := Lib.hid hba
      have HST := Lib.hid hst
      have hl4 : wr.heap.size < ((wr.alloc (.cells #[.string s, .int .i64 (a : Int), .slice A' cv.length c'] 74))).heap.size := by simp
      clear hst hx hrow hrow' hca hcl hfr ho hcu hcv HCV hbw hba
      go_wp2_with fail
      clear f0 f1 f2
      generalize (wr.alloc (.cells #[.string s, .int .i64 (a : Int), .slice A' cv.length c'] 74)) = wa at *
      generalize pressF cv (fl.getD a 0) = p at *
      generalize fl.getD a 0 = q at *
      have HPL := Lib.hid (pushK_length fs fl dr k)
      generalize pushK fs fl dr k = D at *
      generalize D.getD a 0 = x at *
      have g0 := fun L : Later wa => L.cell a0
      have g1 := fun L : Later wa => L.cell a1
      have g2 := fun L : Later wa => L.cell a2
      have gp := fun L : Later wa => L.cell hca'
      have gq := fun L : Later wa => L.cell hcl'
      have HP2 := Lib.hid (fun L : Later wa => HP.out L.world (HBA.out.trans (L.below.mono (by omega))))
      refine wp_region_end (by kernel_rfl) (by kernel_rfl) (by kernel_rfl) ?_
      simp only [muteEnd, mute, theEnd]
      repeat (go_big_quiet_step ((go_at_call 130; first | (with_reducible exact later_b (HP2.out _)) | (with_reducible exact later_d (HP2.out _)) | (with_reducible exact later_s (HP2.out _)))))
      refine wpQuiet_nil ?_
      intro _ hw'
      obtain ⟨LL, hw''⟩ := hw'
      subst hw''
      have hfr3 := (LL.below.frozen (p := ⟨g, a, none⟩) (show g < wa.heap.size by omega)).trans hfr'
      have hca3 := LL.cell hca'
      have HROW3 := Lib.hid (row_on HROW.out LL.below)
      have HBW3 := Lib.hid (HBW.out.trans (LL.below.mono HBW.out.size))
      clear g0 g1 g2 gp gq
      generalize LL.world = w3 at *
      go_wp2_with fail
      go_roundw
      case rel => exact ⟨k + 1, by omega, by go_num, (fit_set ⟨HBW3.out, HROW3.out⟩ hg1 a (x + p)).1, by rw [HST.out]; exact Own.of_row (fit_set ⟨HBW3.out, HROW3.out⟩ hg1 a (x + p)).2 (by rw [List.length_set, HPL.out]) hg1⟩
      case measure => simp [intOf]; omega
    · obtain rfl : k = fs.length := by omega
      have HO := Lib.hid ho
      clear ho
      go_wp2
      go_ret
      exact ⟨_, rfl, HO.out, hb⟩
theorem l00Own_gen (A : Option Addr) (c : Nat) (xs : List Int) (B : Nat) (w : World) (hn : xs.length ≤ 1048576) (hI : Ints B w A xs) :
    Calls Tryz.prog 88 #[.slice A xs.length c] w fun e w' => ∃ v, e = .returned v ∧ Own w.heap.size w' v xs ∧ Below w.heap.size w w' := by
  cases A with
  | some ad => exact l00Own_any ad c xs B w hn hI
  | none =>
    obtain rfl := hI.none_nil
    go_enter Tryz.func88, Tryz.ntmps88
    go_wp2
    go_ret
    exact ⟨_, rfl, Own.empty (Nat.le_refl _), by go_grown⟩
set_option maxRecDepth 100000 in
set_option maxHeartbeats 3200000 in
theorem l07Pushes_any (nx : Nat) (AF : Option Addr) (cf : Nat) (fs : List Fa) (AD : Option Addr) (cd : Nat) (dr : List Int) (AL : Option Addr) (cl : Nat) (fl : List Int) (B : Nat) (w : World) (hB : B ≤ w.heap.size) (hF : Fns B w AF fs) (hD : Ints B w AD dr) (hL : Ints B w AL fl) (hfo : FansOk nx fs) (hn : nx ≤ 24)
    (hdl : dr.length = nx) (hfl : fl.length = nx) (hdb : ∀ i, i < nx → -100000 ≤ dr.getD i 0 ∧ dr.getD i 0 ≤ 100000) (hfb : ∀ i, i < nx → -100000 ≤ fl.getD i 0 ∧ fl.getD i 0 ≤ 100000) :
    Calls Tryz.prog 112 #[.slice AF fs.length cf, .slice AD dr.length cd, .slice AL fl.length cl] w fun e w' => ∃ v, e = .returned v ∧ Own w.heap.size w' v (pushF fs fl dr) ∧ Below w.heap.size w w' := by
  have HFO := Lib.hid hfo
  have HDL := Lib.hid hdl
  have HFL := Lib.hid hfl
  have HDB := Lib.hid hdb
  have HFB := Lib.hid hfb
  have J0 := Lib.hid (hF.more hB)
  have JL := Lib.hid (hL.more hB)
  have h8 := hfo.few
  have hd24 : dr.length ≤ 24 := by omega
  have hf24 : fl.length ≤ 24 := by omega
  have HC := Lib.hid (l00Own_gen AD cd dr B w (by omega) hD)
  clear hF hD hL hfo hdl hfl hdb hfb
  go_enter Tryz.func112, Tryz.ntmps112
  go_wp2_with fail
  refine HC.out.mono ?_
  rintro e w1 ⟨v, rfl, ho1, hb1⟩
  obtain ⟨A1, c1, rfl, -, -⟩ := ho1.slice
  have HO1 := Lib.hid ho1
  clear ho1
  go_wp2_with fail
  go_loopw [8] (fun ii wr => ∃ k : Nat, k ≤ fs.length ∧ ii = .int .i64 k ∧ Below w.heap.size w wr ∧ Own w.heap.size wr (.slice A1 dr.length c1) (pushK fs fl dr k)) (fun ii _ => fs.length - (intOf ii).toNat)
  case atStart => exact ⟨0, Nat.zero_le _, rfl, hb1, HO1.out⟩
  case round =>
    obtain ⟨k, hk, rfl, hb, ho⟩ := hrel
    by_cases hlt : k < fs.length
    · obtain ⟨a, ha, hax⟩ := HFO.out.air k hlt
      have hcu := HFO.out.cur k hlt
      have hpb := pushK_bd (fl := fl) HFO.out HDL.out HDB.out k (by omega) a hax
      have hfb := HFB.out a hax
      obtain ⟨⟨s, a', cv⟩, hx⟩ : ∃ x, fs.getD k nFa = x := ⟨_, rfl⟩
      have hst := pushK_step (fl := fl) (dr := dr) ha hx
      rw [hx] at ha hcu
      have ha : a' = (a : Int) := ha
      subst ha
      have hcu : Curved cv := hcu
      have hpr := pressF_bd hcu (fl.getD a 0)
      obtain ⟨b, o, A', c', rfl, hab, f0, f1, f2, hcv⟩ := (J0.out.below hb).at_ hlt hx
      obtain ⟨g, rfl, hg1, hrow⟩ := ho.row (n := dr.length) (by have := HDL.out; omega) (pushK_length _ _ _ _)
      have hca := row_cell hrow (pushK_length _ _ _ _) (i := a) (by have := HDL.out; omega)
      have hfr := row_free hrow a
      obtain ⟨adl, rfl, hal, hcl⟩ := (JL.out.below hb).atD (k := a) (by have := HFL.out; omega)
      have hglt := row_lt hrow
      have hsz := hb.size
      have HCV := Lib.hid (hcv.more (B' := wr.heap.size) (by omega))
      have i0 : (0 : Int) ≤ (k : Int) := by omega
      have i1 : (k : Int) < fs.length := by omega
      have z0 : (0 : Int) ≤ (a : Int) := by omega
      have z1 : (a : Int) < dr.length := by have := HDL.out; omega
      have z2 : (a : Int) < fl.length := by have := HFL.out; omega
      have HP2 := Lib.hid (fun L : Later wr => l06Pressure_any b (o + k * 3) A' c' cv (fl.getD a 0) wr.heap.size L.world (HCV.out.below L.below) (L.cell f2) hcu hfb)
      have HROW := Lib.hid hrow
      have HBW := Lib.hid hb
      have HST := Lib.hid hst
      clear hst hx hrow ho hcu hcv HCV
      generalize pressF cv (fl.getD a 0) = p at *
      generalize fl.getD a 0 = q at *
      have HPL := Lib.hid (pushK_length fs fl dr k)
      generalize pushK fs fl dr k = D at *
      generalize D.getD a 0 = x at *
      have g1 := fun L : Later wr => L.cell f1
      have gp := fun L : Later wr => L.cell hca
      have gq := fun L : Later wr => L.cell hcl
      go_wp2_with fail
      refine wp_region_end (by kernel_rfl) (by kernel_rfl) (by kernel_rfl) ?_
      simp only [muteEnd, mute, theEnd]
      repeat (go_big_quiet_step ((go_at_call 148; first | (with_reducible exact later_b (HP2.out _)) | (with_reducible exact later_d (HP2.out _)) | (with_reducible exact later_s (HP2.out _)))))
      refine wpQuiet_nil ?_
      intro _ hw'
      obtain ⟨LL, hw''⟩ := hw'
      subst hw''
      have hfr3 := (LL.below.frozen (p := ⟨g, a, none⟩) hglt).trans hfr
      have hca3 := LL.cell hca
      have HROW3 := Lib.hid (row_on HROW.out LL.below)
      have HBW3 := Lib.hid (HBW.out.trans (LL.below.mono HBW.out.size))
      clear g1 gp gq
      generalize LL.world = w3 at *
      go_wp2_with fail
      go_roundw
      case rel => exact ⟨k + 1, by omega, by go_num, (fit_set ⟨HBW3.out, HROW3.out⟩ hg1 a (x + p)).1, by rw [HST.out]; exact Own.of_row (fit_set ⟨HBW3.out, HROW3.out⟩ hg1 a (x + p)).2 (by rw [List.length_set, HPL.out]) hg1⟩
      case measure => simp [intOf]; omega
    · obtain rfl : k = fs.length := by omega
      have HO := Lib.hid ho
      clear ho
      go_wp2
      go_ret
      exact ⟨_, rfl, HO.out, hb⟩
end Go.Proofs.YtejkoicgbgoiaaaGreat

/- Roots of numbers, rounded down: by the program and by the reference. Conditions: the bounds that each theorem names. -/
namespace Go.Proofs.YtejkoicgbgoiaaaGreat
open Go.RowKit
open Pl
theorem nat_sq (q : Nat) : (q : Int) * (q : Int) = ((q * q : Nat) : Int) := (Int.natCast_mul q q).symm
theorem root_lt {n : Int} {i : Nat} (h0 : 0 ≤ n) : rootN n.toNat ≤ i ↔ ((i : Int) + 1) * ((i : Int) + 1) > n := by
  have e : ((i : Int) + 1) * ((i : Int) + 1) = (((i + 1) * (i + 1) : Nat) : Int) := by rw [← nat_sq]; rfl
  rw [e]
  have h := sq_le_iff (n := n.toNat) (k := i + 1)
  constructor
  · intro h1
    have : ¬ (i + 1) * (i + 1) ≤ n.toNat := fun h2 => by have := h.1 h2; omega
    omega
  · intro h1
    have : ¬ (i + 1) ≤ rootN n.toNat := fun h2 => by have := h.2 h2; omega
    omega
theorem root_le {n : Int} {m : Nat} (h0 : 0 ≤ n) : m ≤ rootN n.toNat ↔ (m : Int) * (m : Int) ≤ n := by
  rw [nat_sq]
  have h := sq_le_iff (n := n.toNat) (k := m)
  constructor
  · intro h1; have := h.2 h1; omega
  · intro h1; exact h.1 (by omega)
theorem rootN_top {n : Int} (h0 : 0 ≤ n) (h1 : n ≤ 9223372036854775807) : rootN n.toNat ≤ 3037000499 := rootN_le (by omega)
theorem sq_bd {m : Nat} (h : m ≤ 3037000499) : 0 ≤ (m : Int) * (m : Int) ∧ (m : Int) * (m : Int) ≤ 9223372030926249001 := by
  have a := mul_le (a := (m : Int)) (b := (m : Int)) (A := 3037000499) (B := 3037000499) (by omega) (by omega) (by omega) (by omega)
  have b := mul_ge (a := (m : Int)) (b := (m : Int)) (by omega) (by omega)
  omega
theorem root1_any (bl : Nat) (n : Int) (h0 : 0 ≤ n) (i : Nat) (hi : i < 3037000499) (w : World) (hcl : w.cell? ⟨bl, 0, none⟩ = some (.int .i64 n)) :
    Calls Tryz.prog 166 #[.int .i64 (i : Int), .pointer (some ⟨bl, 0, none⟩)] w fun e w' => e = .returned (.bool (decide (rootN n.toNat ≤ i))) ∧ Below w.heap.size w w' := by
  have hq := sq_bd (m := i + 1) (by omega)
  have e : ((i + 1 : Nat) : Int) = (i : Int) + 1 := rfl
  rw [e] at hq
  rw [decide_eq_decide.2 (root_lt (i := i) h0)]
  go_enter Tryz.func166, Tryz.ntmps166
  go_wp2
  go_ret
  exact ⟨rfl, Below.refl _ _⟩
theorem RootOf_any (n : Int) (w : World) (h0 : 0 ≤ n) (h1 : n ≤ 9223372036854775807) :
    Calls Tryz.prog 133 #[.int .i64 n] w fun e w' => e = .returned (.int .i64 (rootF n)) ∧ Below w.heap.size w w' := by
  have hb0 : Below w.heap.size w (w.alloc (.cells #[.int .i64 n] 2)) := by go_grown
  have HC := Lib.hid (Search_any 166 #[.pointer (some ⟨w.heap.size, 0, none⟩)] (enters_of Tryz.func166 (by kernel_rfl) rfl) 3037000499 (rootN n.toNat) (by omega) (rootN_top h0 h1) (w.alloc (.cells #[.int .i64 n] 2)) (fun W i hb hi => root1_any w.heap.size n h0 i hi W (((bcell hb).1 _ _ (by simp)).trans (box1 _ _ _))))
  unfold rootF
  generalize rootN n.toNat = k at *
  go_enter Tryz.func133, Tryz.ntmps133
  go_wp2_with fail
  refine HC.out.mono ?_
  rintro e w2 ⟨rfl, hb2⟩
  go_wp2_with fail
  go_ret
  exact ⟨rfl, hb0.trans (hb2.mono hb0.size)⟩
theorem l01Root_any (n : Int) (w : World) (h0 : 0 ≤ n) (h1 : n ≤ 9223372036854775807) :
    Calls Tryz.prog 150 #[.int .i64 n] w fun e w' => e = .returned (.int .i64 (rootF n)) ∧ w = w' := by
  have ht := rootN_top h0 h1
  have HL := Lib.hid (fun m => root_le (n := n) (m := m) h0)
  unfold rootF
  generalize rootN n.toNat = r at *
  go_enter Tryz.func150, Tryz.ntmps150
  go_wp2
  go_loop [3, 4] (fun a b => ∃ lo hi : Nat, a = .int .i64 lo ∧ b = .int .i64 hi ∧ lo ≤ r ∧ r ≤ hi ∧ hi ≤ 3037000499) (fun a b => (intOf b).toNat - (intOf a).toNat)
  case atStart => exact ⟨0, 3037000499, rfl, rfl, by omega, by omega, by omega⟩
  case round =>
    obtain ⟨lo, hi, rfl, rfl, g1, g2, g3⟩ := hrel
    by_cases hlt : lo < hi
    · obtain ⟨m, hm⟩ : ∃ m : Nat, m = (lo + hi + 1) / 2 := ⟨_, rfl⟩
      have hmm : ((lo : Int) + (hi : Int) + 1) / 2 = (m : Int) := by omega
      have m1 : lo < m := by omega
      have m2 : m ≤ hi := by omega
      have hq := sq_bd (m := m) (by omega)
      have hl := HL.out m
      clear hm
      by_cases hp : (m : Int) * (m : Int) ≤ n
      · have hp2 := hl.2 hp
        clear hl
        go_wp2
        go_round
        case rel => exact ⟨m, hi, congrArg _ hmm, rfl, hp2, g2, g3⟩
        case measure => simp [intOf]; omega
      · have hp2 : r < m := by
          rcases Nat.lt_or_ge r m with h | h
          · exact h
          · exact absurd (hl.1 h) hp
        clear hl
        go_wp2
        go_round
        case rel => exact ⟨lo, m - 1, rfl, by congr 1; omega, g1, by omega, by omega⟩
        case measure => simp [intOf]; omega
    · obtain rfl : hi = lo := by omega
      obtain rfl : r = hi := by omega
      go_wp2
      go_ret
      exact ⟨rfl, rfl⟩
end Go.Proofs.YtejkoicgbgoiaaaGreat

/- Flows: the amount that is added along a walk, by the program and by the reference. Conditions: the facts on memory and on lengths that each theorem names. -/
namespace Go.Proofs.YtejkoicgbgoiaaaGreat
open Go.RowKit
open Pl
theorem rootF_bd {n : Int} (h0 : 0 ≤ n) (h1 : n ≤ 9223372036854775807) : 0 ≤ rootF n ∧ rootF n ≤ 3037000499 := by
  have := rootN_top h0 h1
  unfold rootF; omega
theorem div_bd {a b : Int} (ha : 0 ≤ a) (h2 : a ≤ 4000000000000000000) (hb : 1 ≤ b) : 0 ≤ a / b ∧ a / b ≤ 4000000000000000000 := by
  have h1 := Int.ediv_nonneg ha (show 0 ≤ b by omega)
  have h3 := Int.ediv_le_self b ha
  omega
/-- The three ways to a step. -/
theorem stepOf_rise {e ri al : Int} (h : 0 < ri) : stepOf e ri al = divR (-e * 10000000000) ri := by unfold stepOf; rw [if_pos h]
theorem stepOf_pos {e ri al : Int} (h : ¬ 0 < ri) (he : 0 < e) : stepOf e ri al = -rootF (e * 10000000000 / al) := by unfold stepOf; rw [if_neg h, if_pos he]
theorem stepOf_neg {e ri al : Int} (h : ¬ 0 < ri) (he : e < 0) : stepOf e ri al = rootF (-e * 10000000000 / al) := by unfold stepOf; rw [if_neg h, if_neg (by omega), if_pos he]
theorem stepOf_zero {ri al : Int} (h : ¬ 0 < ri) : stepOf 0 ri al = 0 := by unfold stepOf; rw [if_neg h, if_neg (by omega), if_neg (by omega)]
theorem rootF_zero : rootF 0 = 0 := by
  have : rootN 0 ≤ 0 := rootN_le (by omega)
  unfold rootF
  rw [show (0 : Int).toNat = 0 from rfl]; omega
theorem clip_eq (s : Int) : mx (-10000) (mn 10000 s) = mn (mx s (-10000)) 10000 := by
  unfold mx mn
  repeat' split
  all_goals omega
set_option maxRecDepth 100000 in
set_option maxHeartbeats 1600000 in
theorem stepOf_any (nx : Nat) (AW : Option Addr) (cw : Nat) (wk : List Int) (AR : Option Addr) (cr : Nat) (rs : List Int) (AP : Option Addr) (cp : Nat) (ps : List Int) (AL : Option Addr) (cl : Nat) (fl : List Int) (B : Nat) (w : World) (hW : Ints B w AW wk) (hR : Ints B w AR rs) (hP : Ints B w AP ps) (hL : Ints B w AL fl) (hs : SysOk nx rs ps fl) (hw : WalkOk nx wk) (hn : nx ≤ 24) (hk : wk.length ≤ 100) (hk0 : 0 < wk.length) :
    Calls Tryz.prog 98 #[.slice AW wk.length cw, .slice AR rs.length cr, .slice AP ps.length cp, .slice AL fl.length cl] w fun e w' => e = .returned (.int .i64 (stepW rs ps fl wk)) ∧ Below w.heap.size w w' := by
  have HS := Lib.hid hs
  have HW := Lib.hid hw
  have JW := Lib.hid hW
  have JR := Lib.hid hR
  have JL := Lib.hid hL
  have HLR := Lib.hid hs.lr
  have HLL := Lib.hid hs.lf
  have HC := Lib.hid (walkError_any nx AW cw wk AR cr rs AP cp ps AL cl fl B w hW hR hP hL hs hw hn hk)
  obtain ⟨R, hRR⟩ : ∃ R, R = stepW rs ps fl wk := ⟨_, rfl⟩
  have heb := errK_bd hs hw wk.length (Nat.le_refl _)
  have hrb := riseK_bd hs hw wk.length (Nat.le_refl _)
  have hab := allK_bd hs hw wk.length (Nat.le_refl _)
  have HR : Hid (R = mn (mx (stepOf (errW rs ps fl wk) (riseK rs fl wk wk.length) (allK rs wk wk.length)) (-10000)) 10000) := Lib.hid hRR
  rw [← hRR]
  have HE0 : Hid (errK rs ps fl wk wk.length = errW rs ps fl wk) := Lib.hid rfl
  rw [HE0.out] at heb
  clear hs hw hW hR hP hL hRR HE0
  generalize errW rs ps fl wk = e at *
  go_enter Tryz.func98, Tryz.ntmps98
  go_wp2_with fail
  refine HC.out.mono ?_
  rintro e' w1 ⟨rfl, nd, rfl⟩
  go_wp2_with fail
  go_loopw [10, 11, 24] (fun u v ii wr => ∃ k : Nat, k ≤ wk.length ∧ ii = .int .i64 k ∧ u = .int .i64 (riseK rs fl wk k) ∧ v = .int .i64 (allK rs wk k) ∧ ∃ n, w.drewN n = wr) (fun _ _ ii _ => wk.length - (intOf ii).toNat)
  case atStart => exact ⟨0, Nat.zero_le _, rfl, rfl, rfl, _, rfl⟩
  case round =>
    obtain ⟨k, hkl, rfl, rfl, rfl, nd', rfl⟩ := hrel
    by_cases hlt : k < wk.length
    · obtain ⟨hn0, hix, hna⟩ := HW.out k hlt
      obtain ⟨ad, rfl, -, hc⟩ := JW.out.atD hlt
      have hRb := riseK_bd HS.out HW.out k (by omega)
      have hAb := allK_bd HS.out HW.out k (by omega)
      have h1 := HS.out.res _ hix
      have h3 := HS.out.flo _ hix
      have h5 := rise1_bd h1.1 h1.2 h3.1 h3.2
      have hst : riseK rs fl wk (k + 1) = riseK rs fl wk k + 2 * rs.getD (ixI (wk.getD k 0)) 0 * ((fl.getD (ixI (wk.getD k 0)) 0).natAbs : Int) := rfl
      have hst2 : allK rs wk (k + 1) = allK rs wk k + rs.getD (ixI (wk.getD k 0)) 0 := rfl
      obtain ⟨adr, rfl, -, hcr⟩ := JR.out.atD (k := ixI (wk.getD k 0)) (by have := HLR.out; omega)
      obtain ⟨adl, rfl, -, hcl⟩ := JL.out.atD (k := ixI (wk.getD k 0)) (by have := HLL.out; omega)
      have z1 : (ixI (wk.getD k 0) : Int) < rs.length := by have := HLR.out; omega
      have z3 : (ixI (wk.getD k 0) : Int) < fl.length := by have := HLL.out; omega
      have HA := Lib.hid (fun W => airwayOf_any (wk.getD k 0) W hn0 (by omega))
      have HD := Lib.hid (fun W => abs_any (fl.getD (ixI (wk.getD k 0)) 0) W (by omega) (by omega))
      have HST := Lib.hid hst
      have HST2 := Lib.hid hst2
      clear hst hst2
      generalize ((fl.getD (ixI (wk.getD k 0)) 0).natAbs : Int) = na at *
      generalize rs.getD (ixI (wk.getD k 0)) 0 = r at *
      generalize fl.getD (ixI (wk.getD k 0)) 0 = q at *
      generalize ixI (wk.getD k 0) = i at *
      generalize sgI (wk.getD k 0) = sg at *
      generalize wk.getD k 0 = n at *
      generalize riseK rs fl wk k = ri at *
      generalize allK rs wk k = al at *
      have i0 : (0 : Int) ≤ (k : Int) := by omega
      have i1 : (k : Int) < wk.length := by omega
      have z0 : (0 : Int) ≤ (i : Int) := by omega
      go_wp2_with (go_at_call 131; refine (HA.out _).mono ?_; rintro e w' ⟨rfl, rfl⟩)
      go_big_quiet ((go_at_call 96; first | (with_reducible exact quiet_s (HD.out _)) | (with_reducible exact quiet_s2 (HD.out _))))
      go_wp2
      go_roundw
      case rel => exact ⟨k + 1, by omega, by go_num, by rw [HST.out], by rw [HST2.out], _, rfl⟩
      case measure => simp [intOf]; omega
    · obtain rfl : k = wk.length := by omega
      generalize riseK rs fl wk wk.length = ri at *
      generalize allK rs wk wk.length = al at *
      by_cases hri : 0 < ri
      · have HS1 := Lib.hid (stepOf_rise (e := e) (al := al) hri)
        have hd1 := divR_le (a := -e * 10000000000) (b := ri) (c := 2000000000000000000) (by omega) (by omega) (by omega)
        have hd2 := le_divR (a := -e * 10000000000) (b := ri) (c := 2000000000000000000) (by omega) (by omega) (by omega)
        have HD := Lib.hid (fun W => divRound_any (-e * 10000000000) ri W (by omega) (by omega) (by omega) (by omega))
        generalize divR (-e * 10000000000) ri = s at *
        go_wp2_with (go_at_call 132; refine (HD.out _).mono ?_; rintro e w' ⟨rfl, _, rfl⟩)
        all_goals go_ret
        all_goals exact ⟨ret_int (by rw [HR.out, HS1.out]; unfold mn mx; repeat' split <;> omega), by first | exact below_drewN (Below.refl _ _) _ | exact below_drewN (below_drewN (Below.refl _ _) _) _⟩
      · rcases Int.lt_trichotomy e 0 with he | he | he
        · have HS1 := Lib.hid (stepOf_neg (al := al) hri he)
          have hdv := div_bd (a := -e * 10000000000) (b := al) (by omega) (by omega) (by omega)
          have hrt := rootF_bd (n := -e * 10000000000 / al) (by omega) (by omega)
          have HD := Lib.hid (fun W => RootOf_any (-e * 10000000000 / al) W (by omega) (by omega))
          generalize rootF (-e * 10000000000 / al) = s at *
          go_wp2_with fail
          refine (HD.out _).mono ?_
          rintro e' w2 ⟨rfl, hb2⟩
          go_wp2_with fail
          all_goals go_ret
          all_goals exact ⟨ret_int (by rw [HR.out, HS1.out]; unfold mn mx; repeat' split <;> omega), (below_drewN (Below.refl _ _) _).trans hb2⟩
        · subst he
          have HS1 := Lib.hid (stepOf_zero (al := al) hri)
          go_wp2_with fail
          all_goals go_ret
          all_goals exact ⟨ret_int (by rw [HR.out, HS1.out]; rfl), below_drewN (Below.refl _ _) _⟩
        · have HS1 := Lib.hid (stepOf_pos (al := al) hri he)
          have hdv := div_bd (a := e * 10000000000) (b := al) (by omega) (by omega) (by omega)
          have hrt := rootF_bd (n := e * 10000000000 / al) (by omega) (by omega)
          have HD := Lib.hid (fun W => RootOf_any (e * 10000000000 / al) W (by omega) (by omega))
          generalize rootF (e * 10000000000 / al) = s at *
          go_wp2_with fail
          refine (HD.out _).mono ?_
          rintro e' w2 ⟨rfl, hb2⟩
          go_wp2_with fail
          all_goals go_ret
          all_goals exact ⟨ret_int (by rw [HR.out, HS1.out]; unfold mn mx; repeat' split <;> omega), (below_drewN (Below.refl _ _) _).trans hb2⟩
set_option maxRecDepth 100000 in
set_option maxHeartbeats 1600000 in
theorem l07Step_any (nx : Nat) (AW : Option Addr) (cw : Nat) (wk : List Int) (AR : Option Addr) (cr : Nat) (rs : List Int) (AP : Option Addr) (cp : Nat) (ps : List Int) (AL : Option Addr) (cl : Nat) (fl : List Int) (B : Nat) (w : World) (hW : Ints B w AW wk) (hR : Ints B w AR rs) (hP : Ints B w AP ps) (hL : Ints B w AL fl) (hs : SysOk nx rs ps fl) (hw : WalkOk nx wk) (hn : nx ≤ 24) (hk : wk.length ≤ 100) (hk0 : 0 < wk.length) :
    Calls Tryz.prog 113 #[.slice AR rs.length cr, .slice AP ps.length cp, .slice AL fl.length cl, .slice AW wk.length cw] w fun e w' => e = .returned (.int .i64 (stepW rs ps fl wk)) ∧ ∃ n, w.drewN n = w' := by
  have HS := Lib.hid hs
  have HW := Lib.hid hw
  have JW := Lib.hid hW
  have JR := Lib.hid hR
  have JL := Lib.hid hL
  have HLR := Lib.hid hs.lr
  have HLL := Lib.hid hs.lf
  have HC := Lib.hid (l07Error_any nx AW cw wk AR cr rs AP cp ps AL cl fl B w hW hR hP hL hs hw hn hk)
  obtain ⟨R, hRR⟩ : ∃ R, R = stepW rs ps fl wk := ⟨_, rfl⟩
  have heb := errK_bd hs hw wk.length (Nat.le_refl _)
  have hrb := riseK_bd hs hw wk.length (Nat.le_refl _)
  have hab := allK_bd hs hw wk.length (Nat.le_refl _)
  have HR : Hid (R = mx (-10000) (mn 10000 (stepOf (errW rs ps fl wk) (riseK rs fl wk wk.length) (allK rs wk wk.length)))) := Lib.hid (by rw [clip_eq]; exact hRR)
  rw [← hRR]
  have HE0 : Hid (errK rs ps fl wk wk.length = errW rs ps fl wk) := Lib.hid rfl
  rw [HE0.out] at heb
  clear hs hw hW hR hP hL hRR HE0
  generalize errW rs ps fl wk = e at *
  go_enter Tryz.func113, Tryz.ntmps113
  go_wp2_with fail
  refine HC.out.mono ?_
  rintro e' w1 ⟨rfl, nd, rfl⟩
  go_wp2_with fail
  go_loopw [10, 11, 12] (fun u v ii wr => ∃ k : Nat, k ≤ wk.length ∧ ii = .int .i64 k ∧ u = .int .i64 (riseK rs fl wk k) ∧ v = .int .i64 (allK rs wk k) ∧ ∃ n, w.drewN n = wr) (fun _ _ ii _ => wk.length - (intOf ii).toNat)
  case atStart => exact ⟨0, Nat.zero_le _, rfl, rfl, rfl, _, rfl⟩
  case round =>
    obtain ⟨k, hkl, rfl, rfl, rfl, nd', rfl⟩ := hrel
    by_cases hlt : k < wk.length
    · obtain ⟨hn0, hix, hna⟩ := HW.out k hlt
      obtain ⟨ad, rfl, -, hc⟩ := JW.out.atD hlt
      have hRb := riseK_bd HS.out HW.out k (by omega)
      have hAb := allK_bd HS.out HW.out k (by omega)
      have h1 := HS.out.res _ hix
      have h3 := HS.out.flo _ hix
      have h5 := rise1_bd h1.1 h1.2 h3.1 h3.2
      have hst : riseK rs fl wk (k + 1) = riseK rs fl wk k + 2 * rs.getD (ixI (wk.getD k 0)) 0 * ((fl.getD (ixI (wk.getD k 0)) 0).natAbs : Int) := rfl
      have hst2 : allK rs wk (k + 1) = allK rs wk k + rs.getD (ixI (wk.getD k 0)) 0 := rfl
      obtain ⟨adr, rfl, -, hcr⟩ := JR.out.atD (k := ixI (wk.getD k 0)) (by have := HLR.out; omega)
      obtain ⟨adl, rfl, -, hcl⟩ := JL.out.atD (k := ixI (wk.getD k 0)) (by have := HLL.out; omega)
      have z1 : (ixI (wk.getD k 0) : Int) < rs.length := by have := HLR.out; omega
      have z3 : (ixI (wk.getD k 0) : Int) < fl.length := by have := HLL.out; omega
      have HA := Lib.hid (fun W => absS_any (wk.getD k 0) W (by omega) (by omega))
      have hia := ix_abs hn0
      have HD := Lib.hid (fun W => absS_any (fl.getD (ixI (wk.getD k 0)) 0) W (by omega) (by omega))
      have HST := Lib.hid hst
      have HST2 := Lib.hid hst2
      clear hst hst2
      generalize ((fl.getD (ixI (wk.getD k 0)) 0).natAbs : Int) = na at *
      generalize rs.getD (ixI (wk.getD k 0)) 0 = r at *
      generalize fl.getD (ixI (wk.getD k 0)) 0 = q at *
      generalize ixI (wk.getD k 0) = i at *
      generalize wk.getD k 0 = n at *
      generalize riseK rs fl wk k = ri at *
      generalize allK rs wk k = al at *
      have i0 : (0 : Int) ≤ (k : Int) := by omega
      have i1 : (k : Int) < wk.length := by omega
      have z0 : (0 : Int) ≤ (i : Int) := by omega
      generalize (n.natAbs : Int) = nb at *
      go_wp2_with (go_at_call 146; refine (HA.out _).mono ?_; rintro e w' ⟨rfl, rfl⟩)
      go_big_quiet ((go_at_call 146; first | (with_reducible exact quiet_s (HD.out _)) | (with_reducible exact quiet_s2 (HD.out _))))
      go_wp2
      go_roundw
      case rel => exact ⟨k + 1, by omega, by go_num, by rw [HST.out], by rw [HST2.out], _, rfl⟩
      case measure => simp [intOf]; omega
    · obtain rfl : k = wk.length := by omega
      generalize riseK rs fl wk wk.length = ri at *
      generalize allK rs wk wk.length = al at *
      by_cases hri : 0 < ri
      · have HS1 := Lib.hid (stepOf_rise (e := e) (al := al) hri)
        have HD := Lib.hid (fun W => l01Div_any (-e * 10000000000) ri W (by omega) (by omega) (by omega) (by omega))
        generalize divR (-e * 10000000000) ri = s at *
        go_wp2_with (first | (go_at_call 149; refine (HD.out _).mono ?_; rintro e w' ⟨rfl, rfl⟩) | (go_at_call 151; refine (l00Min_any _ _ _).mono ?_; rintro e w' ⟨rfl, rfl⟩) | (go_at_call 141; refine (l00Max_any _ _ _).mono ?_; rintro e w' ⟨rfl, rfl⟩))
        go_ret
        exact ⟨ret_int (by rw [HR.out, HS1.out]), _, rfl⟩
      · rcases Int.lt_trichotomy e 0 with he | he | he
        · have HS1 := Lib.hid (stepOf_neg (al := al) hri he)
          have hdv := div_bd (a := -e * 10000000000) (b := al) (by omega) (by omega) (by omega)
          have hrt := rootF_bd (n := -e * 10000000000 / al) (by omega) (by omega)
          have HD := Lib.hid (fun W => l01Root_any (-e * 10000000000 / al) W (by omega) (by omega))
          have HA := Lib.hid (fun W => absS_any e W (by omega) (by omega))
          rw [show (e.natAbs : Int) = -e by omega] at HA
          generalize rootF (-e * 10000000000 / al) = s at *
          go_wp2_with (first | (go_at_call 146; refine (HA.out _).mono ?_; rintro e w' ⟨rfl, rfl⟩) | (go_at_call 150; refine (HD.out _).mono ?_; rintro e w' ⟨rfl, rfl⟩) | (go_at_call 151; refine (l00Min_any _ _ _).mono ?_; rintro e w' ⟨rfl, rfl⟩) | (go_at_call 141; refine (l00Max_any _ _ _).mono ?_; rintro e w' ⟨rfl, rfl⟩))
          go_ret
          exact ⟨ret_int (by rw [HR.out, HS1.out]), _, rfl⟩
        · subst he
          have HS1 := Lib.hid (stepOf_zero (al := al) hri)
          have HD := Lib.hid (fun W => l01Root_any 0 W (by omega) (by omega))
          rw [rootF_zero] at HD
          have HA := Lib.hid (fun W => absS_any 0 W (by omega) (by omega))
          have hz : (0 : Int) / al = 0 := Int.zero_ediv _
          go_wp2_with (first | (go_at_call 146; refine (HA.out _).mono ?_; rintro e w' ⟨rfl, rfl⟩) | (go_at_call 150; refine (HD.out _).mono ?_; rintro e w' ⟨rfl, rfl⟩) | (go_at_call 151; refine (l00Min_any _ _ _).mono ?_; rintro e w' ⟨rfl, rfl⟩) | (go_at_call 141; refine (l00Max_any _ _ _).mono ?_; rintro e w' ⟨rfl, rfl⟩))
          go_ret
          exact ⟨ret_int (by rw [HR.out, HS1.out]), _, rfl⟩
        · have HS1 := Lib.hid (stepOf_pos (al := al) hri he)
          have hdv := div_bd (a := e * 10000000000) (b := al) (by omega) (by omega) (by omega)
          have hrt := rootF_bd (n := e * 10000000000 / al) (by omega) (by omega)
          have HD := Lib.hid (fun W => l01Root_any (e * 10000000000 / al) W (by omega) (by omega))
          have HA := Lib.hid (fun W => absS_any e W (by omega) (by omega))
          rw [show (e.natAbs : Int) = e by omega] at HA
          generalize rootF (e * 10000000000 / al) = s at *
          go_wp2_with (first | (go_at_call 146; refine (HA.out _).mono ?_; rintro e w' ⟨rfl, rfl⟩) | (go_at_call 150; refine (HD.out _).mono ?_; rintro e w' ⟨rfl, rfl⟩) | (go_at_call 151; refine (l00Min_any _ _ _).mono ?_; rintro e w' ⟨rfl, rfl⟩) | (go_at_call 141; refine (l00Max_any _ _ _).mono ?_; rintro e w' ⟨rfl, rfl⟩))
          go_ret
          exact ⟨ret_int (by rw [HR.out, HS1.out]), _, rfl⟩
end Go.Proofs.YtejkoicgbgoiaaaGreat

/- Flows: an amount that is added along a walk, by the program and by the reference. Conditions: the facts on memory and on lengths that each theorem names. -/
namespace Go.Proofs.YtejkoicgbgoiaaaGreat
open Go.RowKit
open Pl
theorem addK_step {fl wk : List Int} {a : Int} {k : Nat} : addK fl wk a (k + 1) = (addK fl wk a k).set (ixI (wk.getD k 0)) ((addK fl wk a k).getD (ixI (wk.getD k 0)) 0 + sgI (wk.getD k 0) * a) := rfl
set_option maxRecDepth 100000 in
set_option maxHeartbeats 1600000 in
theorem addAlong_any (nx g c base : Nat) (fl : List Int) (AW : Option Addr) (cw : Nat) (wk : List Int) (a : Int) (B : Nat) (w : World) (hrow : w.ownsRow base 2 1 (.slice (some ⟨g, 0, none⟩) nx c) nx (vals fl)) (hl : fl.length = nx) (hI : Ints B w AW wk) (hne : ∀ ad, AW = some ad → ad.block ≠ g) (hf : ∀ i, i < nx → -100000 ≤ fl.getD i 0 ∧ fl.getD i 0 ≤ 100000) (ha : -10000 ≤ a ∧ a ≤ 10000) (hw : WalkOk nx wk) (hn : nx ≤ 24) (hk : wk.length ≤ 100) :
    Calls Tryz.prog 97 #[.slice (some ⟨g, 0, none⟩) nx c, .slice AW wk.length cw, .int .i64 a] w fun e w' => e = .returned (.tuple #[]) ∧ w'.ownsRow base 2 1 (.slice (some ⟨g, 0, none⟩) nx c) nx (vals (addW fl wk a)) ∧ w.grownBy w' (some g) := by
  have HROW := Lib.hid hrow
  have HL := Lib.hid hl
  have J := Lib.hid hI
  have HNE := Lib.hid hne
  have HF := Lib.hid hf
  have HW := Lib.hid hw
  unfold addW
  clear hrow hl hI hne hf hw
  go_enter Tryz.func97, Tryz.ntmps97
  go_wp2
  go_loopw [12] (fun ii wr => ∃ k : Nat, k ≤ wk.length ∧ ii = .int .i64 k ∧ wr.ownsRow base 2 1 (.slice (some ⟨g, 0, none⟩) nx c) nx (vals (addK fl wk a k)) ∧ w.grownBy wr (some g)) (fun ii _ => wk.length - (intOf ii).toNat)
  case atStart => exact ⟨0, Nat.zero_le _, rfl, HROW.out, World.grownBy.refl _ _⟩
  case round =>
    obtain ⟨k, hkl, rfl, hr, hg⟩ := hrel
    by_cases hlt : k < wk.length
    · obtain ⟨hn0, hix, hna⟩ := HW.out k hlt
      obtain ⟨ad, rfl, -, hc0⟩ := J.out.atD hlt
      have hc := hg.cell hc0 (fun e => by rw [block_add] at e; injection e with e; exact HNE.out ad rfl e)
      have hlen : (addK fl wk a k).length = nx := (addK_length _ _ _ _).trans HL.out
      have hx := addK_bd HL.out HF.out ha HW.out k (by omega) _ hix
      have hst := addK_step (fl := fl) (wk := wk) (a := a) (k := k)
      have hm := sg_mul (n := wk.getD k 0) (d := a) (B := 10000) (by omega) (by omega)
      have hca := row_cell hr hlen hix
      have hfz := row_free hr (ixI (wk.getD k 0))
      have HR := Lib.hid hr
      have HG := Lib.hid hg
      have HA := Lib.hid (fun W => airwayOf_any (wk.getD k 0) W hn0 (by omega))
      have HST := Lib.hid hst
      have z1 : (ixI (wk.getD k 0) : Int) < nx := by omega
      clear hst hr hg hlen hc0
      generalize addK fl wk a k = D at *
      generalize D.getD (ixI (wk.getD k 0)) 0 = x at *
      generalize ixI (wk.getD k 0) = i at *
      generalize sgI (wk.getD k 0) = sg at *
      generalize wk.getD k 0 = n at *
      have i0 : (0 : Int) ≤ (k : Int) := by omega
      have i1 : (k : Int) < wk.length := by omega
      have z0 : (0 : Int) ≤ (i : Int) := by omega
      go_wp2_with (go_at_call 131; refine (HA.out _).mono ?_; rintro e w' ⟨rfl, rfl⟩)
      go_roundw
      case rel =>
        obtain ⟨r1, r2⟩ := World.ownsRow.stored HR.out i (.int .i64 (x + sg * a))
        rw [vals_set] at r1
        exact ⟨k + 1, by omega, by go_num, by rw [HST.out]; exact r1, HG.out.trans r2⟩
      case measure => simp [intOf]; omega
    · obtain rfl : k = wk.length := by omega
      have HR := Lib.hid hr
      clear hr
      go_wp2
      go_end0
      exact ⟨rfl, HR.out, hg⟩
set_option maxRecDepth 100000 in
set_option maxHeartbeats 1600000 in
theorem l07Add_any (nx g c base : Nat) (fl : List Int) (AW : Option Addr) (cw : Nat) (wk : List Int) (a : Int) (B : Nat) (w : World) (hrow : w.ownsRow base 2 1 (.slice (some ⟨g, 0, none⟩) nx c) nx (vals fl)) (hl : fl.length = nx) (hI : Ints B w AW wk) (hne : ∀ ad, AW = some ad → ad.block ≠ g) (hf : ∀ i, i < nx → -100000 ≤ fl.getD i 0 ∧ fl.getD i 0 ≤ 100000) (ha : -10000 ≤ a ∧ a ≤ 10000) (hw : WalkOk nx wk) (hn : nx ≤ 24) (hk : wk.length ≤ 100) :
    Calls Tryz.prog 114 #[.slice (some ⟨g, 0, none⟩) nx c, .slice AW wk.length cw, .int .i64 a] w fun e w' => e = .returned (.tuple #[]) ∧ w'.ownsRow base 2 1 (.slice (some ⟨g, 0, none⟩) nx c) nx (vals (addW fl wk a)) ∧ w.grownBy w' (some g) := by
  have HROW := Lib.hid hrow
  have HL := Lib.hid hl
  have J := Lib.hid hI
  have HNE := Lib.hid hne
  have HF := Lib.hid hf
  have HW := Lib.hid hw
  unfold addW
  clear hrow hl hI hne hf hw
  go_enter Tryz.func114, Tryz.ntmps114
  go_wp2
  go_loopw [6] (fun ii wr => ∃ k : Nat, k ≤ wk.length ∧ ii = .int .i64 k ∧ wr.ownsRow base 2 1 (.slice (some ⟨g, 0, none⟩) nx c) nx (vals (addK fl wk a k)) ∧ w.grownBy wr (some g)) (fun ii _ => wk.length - (intOf ii).toNat)
  case atStart => exact ⟨0, Nat.zero_le _, rfl, HROW.out, World.grownBy.refl _ _⟩
  case round =>
    obtain ⟨k, hkl, rfl, hr, hg⟩ := hrel
    by_cases hlt : k < wk.length
    · obtain ⟨hn0, hix, hna⟩ := HW.out k hlt
      obtain ⟨ad, rfl, -, hc0⟩ := J.out.atD hlt
      have hc := hg.cell hc0 (fun e => by rw [block_add] at e; injection e with e; exact HNE.out ad rfl e)
      have hlen : (addK fl wk a k).length = nx := (addK_length _ _ _ _).trans HL.out
      have hx := addK_bd HL.out HF.out ha HW.out k (by omega) _ hix
      have hst := addK_step (fl := fl) (wk := wk) (a := a) (k := k)
      have hip := ix_pos hn0
      have hca := row_cell hr hlen hix
      have hfz := row_free hr (ixI (wk.getD k 0))
      have HR := Lib.hid hr
      have HG := Lib.hid hg
      have HST := Lib.hid hst
      have HSG : Hid (sgI (wk.getD k 0) = if 0 < wk.getD k 0 then 1 else -1) := Lib.hid rfl
      have z1 : (ixI (wk.getD k 0) : Int) < nx := by omega
      clear hst hr hg hlen hc0
      generalize addK fl wk a k = D at *
      generalize D.getD (ixI (wk.getD k 0)) 0 = x at *
      generalize ixI (wk.getD k 0) = i at *
      generalize sgI (wk.getD k 0) = sg at *
      generalize wk.getD k 0 = n at *
      have i0 : (0 : Int) ≤ (k : Int) := by omega
      have i1 : (k : Int) < wk.length := by omega
      have z0 : (0 : Int) ≤ (i : Int) := by omega
      by_cases hp : 0 < n
      · have hwr : IntKind.i64.wrap (n - 1) = (i : Int) := by rw [if_pos hp] at hip; rw [IntWalk.i64_in _ (by omega)]; omega
        have HST2 := Lib.hid (show addK fl wk a (k + 1) = D.set i (x + a) by rw [HST.out, HSG.out, if_pos hp, Int.one_mul])
        clear hip
        go_wp2
        go_roundw
        case rel =>
          obtain ⟨r1, r2⟩ := World.ownsRow.stored HR.out i (.int .i64 (x + a))
          rw [vals_set] at r1
          exact ⟨k + 1, by omega, by go_num, by rw [HST2.out]; exact r1, HG.out.trans r2⟩
        case measure => simp [intOf]; omega
      · have hwr : IntKind.i64.wrap (-n - 1) = (i : Int) := by rw [if_neg hp] at hip; rw [IntWalk.i64_in _ (by omega)]; omega
        have HST2 := Lib.hid (show addK fl wk a (k + 1) = D.set i (x - a) by rw [HST.out, HSG.out, if_neg hp]; congr 1; omega)
        clear hip
        go_wp2
        go_roundw
        case rel =>
          obtain ⟨r1, r2⟩ := World.ownsRow.stored HR.out i (.int .i64 (x - a))
          rw [vals_set] at r1
          exact ⟨k + 1, by omega, by go_num, by rw [HST2.out]; exact r1, HG.out.trans r2⟩
        case measure => simp [intOf]; omega
    · obtain rfl : k = wk.length := by omega
      have HR := Lib.hid hr
      clear hr
      go_wp2
      go_end0
      exact ⟨rfl, HR.out, hg⟩
end Go.Proofs.YtejkoicgbgoiaaaGreat

/- Flows: flows whose meshes have small errors: what they are, and what lies in memory on the way. Conditions: those that each lemma names. -/
namespace Go.Proofs.YtejkoicgbgoiaaaGreat
open Go.RowKit
open Pl
/-- Flows that solve a network, the greatest error, a code. -/
noncomputable def solveF (J : Int) (xs : List Aw) (rs : List Int) (fs : List Fa) (dr st : List Int) (tol rds : Int) : List Int × Int × Int :=
  if (mineB J xs && fansB fs) = true then
    if (inB tol 0 100000 && inB rds 0 500) = true then
      if (sysB xs.length rs dr st && hasFB xs.length fs) = true then
        if balB J.toNat xs st = true then solveR rs dr fs (meshesF J.toNat xs) tol rds.toNat st else ([], 0, 6)
      else ([], 0, 7)
    else ([], 0, 2)
  else ([], 0, 1)
theorem solveR_zero {rs dr : List Int} {fs : List Fa} {ms : List (List Int)} {tol : Int} {fl : List Int} : solveR rs dr fs ms tol 0 fl = if worstL (errsL rs (pushF fs fl dr) fl ms) ≤ tol then (fl, worstL (errsL rs (pushF fs fl dr) fl ms), 0) else ([], worstL (errsL rs (pushF fs fl dr) fl ms), 5) := rfl
theorem solveR_yes {rs dr : List Int} {fs : List Fa} {ms : List (List Int)} {tol : Int} {fl : List Int} (h : worstL (errsL rs (pushF fs fl dr) fl ms) ≤ tol) : ∀ n, solveR rs dr fs ms tol n fl = (fl, worstL (errsL rs (pushF fs fl dr) fl ms), 0)
  | 0 => by rw [solveR_zero, if_pos h]
  | n + 1 => by unfold solveR; rw [if_pos h]
theorem solveR_full {rs dr : List Int} {fs : List Fa} {ms : List (List Int)} {tol : Int} {fl : List Int} (h : ¬ worstL (errsL rs (pushF fs fl dr) fl ms) ≤ tol) : solveR rs dr fs ms tol 0 fl = ([], worstL (errsL rs (pushF fs fl dr) fl ms), 5) := by rw [solveR_zero, if_neg h]
theorem solveR_bad {rs dr : List Int} {fs : List Fa} {ms : List (List Int)} {tol : Int} {fl : List Int} {n : Nat} (h : ¬ worstL (errsL rs (pushF fs fl dr) fl ms) ≤ tol) (hp : passK rs dr fs ms fl = none) : solveR rs dr fs ms tol (n + 1) fl = ([], 0, 6) := by unfold solveR; rw [if_neg h, hp]
theorem solveR_go {rs dr : List Int} {fs : List Fa} {ms : List (List Int)} {tol : Int} {fl fl' : List Int} {n : Nat} (h : ¬ worstL (errsL rs (pushF fs fl dr) fl ms) ≤ tol) (hp : passK rs dr fs ms fl = some fl') : solveR rs dr fs ms tol (n + 1) fl = solveR rs dr fs ms tol n fl' := by
  have e : solveR rs dr fs ms tol (n + 1) fl = if worstL (errsL rs (pushF fs fl dr) fl ms) ≤ tol then (fl, worstL (errsL rs (pushF fs fl dr) fl ms), 0) else
    match passK rs dr fs ms fl with
      | none => ([], 0, 6)
      | some fl' => solveR rs dr fs ms tol n fl' := rfl
  rw [e, if_neg h, hp]
theorem passK_drop {rs dr : List Int} {fs : List Fa} {ms : List (List Int)} {k : Nat} {fl : List Int} (hk : k < ms.length) :
    passK rs dr fs (ms.drop k) fl = if flowsB (addW fl (ms.getD k []) (stepW rs (pushF fs fl dr) fl (ms.getD k []))) then passK rs dr fs (ms.drop (k + 1)) (addW fl (ms.getD k []) (stepW rs (pushF fs fl dr) fl (ms.getD k []))) else none := by
  rw [List.drop_eq_getElem_cons hk, getD_il hk]
  rfl
theorem passK_end {rs dr : List Int} {fs : List Fa} {ms : List (List Int)} {fl : List Int} : passK rs dr fs (ms.drop ms.length) fl = some fl := by rw [List.drop_length]; rfl
theorem fans_ok {nx : Nat} {fs : List Fa} (h : fansB fs = true) (h2 : hasFB nx fs = true) : FansOk nx fs := by
  unfold fansB at h
  rw [Bool.and_eq_true, decide_eq_true_eq, allUp_iff] at h
  have key : ∀ k, k < fs.length → (0 ≤ (fs.getD k nFa).aw ∧ (fs.getD k nFa).aw ≤ 23) ∧ curveB (fs.getD k nFa).cv = true := fun k hk => by
    have h1 := h.2 k hk
    unfold fansP fanB at h1
    simp only [Bool.and_eq_true] at h1
    exact ⟨inB_iff.1 h1.1.2.1, h1.1.2.2⟩
  refine ⟨by omega, fun k hk => ?_, fun k hk => curved (key k hk).2⟩
  have h3 := (key k hk).1
  unfold hasFB at h2
  rw [Bool.not_eq_true'] at h2
  have h4 := List.any_eq_false.1 h2 _ (List.getElem_mem hk)
  rw [← getD_fa hk] at h4
  have h5 : inB (fs.getD k nFa).aw 0 ((nx : Int) - 1) = true := by simpa using h4
  have h6 := inB_iff.1 h5
  exact ⟨(fs.getD k nFa).aw.toNat, by omega, by omega⟩
theorem fans_aw {fs : List Fa} (h : fansB fs = true) : ∀ x ∈ fs, 0 ≤ x.aw := by
  intro x hx
  obtain ⟨k, hk, rfl⟩ := List.getElem_of_mem hx
  unfold fansB at h
  rw [Bool.and_eq_true, allUp_iff] at h
  have h1 := h.2 k hk
  unfold fansP at h1
  rw [Bool.and_eq_true, getD_fa hk] at h1
  have h2 := h1.1
  unfold fanB at h2
  simp only [Bool.and_eq_true] at h2
  exact (inB_iff.1 h2.2.1).1
theorem pushF_length (fs : List Fa) (fl dr : List Int) : (pushF fs fl dr).length = dr.length := pushK_length _ _ _ _
theorem sys_ok {nx : Nat} {rs dr fl : List Int} {fs : List Fa} (hf : FansOk nx fs) (hr : rs.length = nx ∧ ∀ i, i < nx → 1 ≤ rs.getD i 0 ∧ rs.getD i 0 ≤ 1000000) (hd : dr.length = nx ∧ ∀ i, i < nx → -100000 ≤ dr.getD i 0 ∧ dr.getD i 0 ≤ 100000) (hl : fl.length = nx) (hb : ∀ i, i < nx → -100000 ≤ fl.getD i 0 ∧ fl.getD i 0 ≤ 100000) : SysOk nx rs (pushF fs fl dr) fl :=
  ⟨hr.1, (pushF_length _ _ _).trans hd.1, hl, hr.2, fun i hi => by
    have := pushK_bd (fl := fl) hf hd.1 hd.2 fs.length (Nat.le_refl _) i hi
    have h8 := hf.few
    unfold pushF
    omega, hb⟩
theorem fits_of {nx : Nat} {xs : List Int} (hl : xs.length = nx) (h : ∀ i, i < nx → -9000000000 ≤ xs.getD i 0 ∧ xs.getD i 0 ≤ 9000000000) : Fits xs := by
  intro x hx
  obtain ⟨k, hk, rfl⟩ := List.getElem_of_mem hx
  have := h k (by omega)
  rw [getD_pt hk] at this
  omega
/-- Lists of numbers that are only read, apart from a row. -/
def NestA (row : Option Nat) (w : World) (A : Option Addr) (xss : List (List Int)) : Prop :=
  0 < xss.length → ∃ b o, A = some ⟨b, o, none⟩ ∧ b < w.heap.size ∧ some b ≠ row ∧ ∀ k, k < xss.length → ∃ A' c, w.cell? ⟨b, o + k, none⟩ = some (.slice A' (xss.getD k []).length c) ∧ Ints w.heap.size w A' (xss.getD k []) ∧ ∀ ad, A' = some ad → some ad.block ≠ row
theorem NestA.nest {row : Option Nat} {w : World} {A : Option Addr} {xss : List (List Int)} (h : NestA row w A xss) : Nest w.heap.size w A xss := by
  intro hn
  obtain ⟨b, o, e, hlt, _, hc⟩ := h hn
  refine ⟨b, o, e, hlt, fun k hk => ?_⟩
  obtain ⟨A', c, h1, h2, _⟩ := hc k hk
  rw [getD_il hk] at h1 h2
  exact ⟨A', c, h1, h2⟩
theorem NestA.at_ {row : Option Nat} {w : World} {A : Option Addr} {xss : List (List Int)} (h : NestA row w A xss) {k : Nat} (hk : k < xss.length) : ∃ b o A' c, A = some ⟨b, o, none⟩ ∧ w.cell? ⟨b, o + k, none⟩ = some (.slice A' (xss.getD k []).length c) ∧ Ints w.heap.size w A' (xss.getD k []) ∧ ∀ ad, A' = some ad → some ad.block ≠ row := by
  obtain ⟨b, o, e, _, _, hc⟩ := h (by omega)
  obtain ⟨A', c, h1, h2, h3⟩ := hc k hk
  exact ⟨b, o, A', c, e, h1, h2, h3⟩
theorem NestA.grown {row : Option Nat} {w w' : World} {A : Option Addr} {xss : List (List Int)} (h : NestA row w A xss) (hg : w.grownBy w' row) : NestA row w' A xss := by
  intro hn
  obtain ⟨b, o, e, hlt, hne, hc⟩ := h hn
  refine ⟨b, o, e, Nat.lt_of_lt_of_le hlt hg.size, hne, fun k hk => ?_⟩
  obtain ⟨A', c, h1, h2, h3⟩ := hc k hk
  exact ⟨A', c, hg.cell h1 hne, h2.grown hg h3 hg.size, h3⟩
/-- Lists that lie from L on, beside a row that lies below L. -/
theorem NestA.new {L : Nat} {row : Option Nat} {w : World} {A : Option Addr} {xss : List (List Int)} (h : NestL L w.heap.size w A xss) (hr : ∀ g, row = some g → g < L) : NestA row w A xss := by
  intro hn
  obtain ⟨b, o, e, hl, hlt, hc⟩ := h hn
  refine ⟨b, o, e, hlt, fun e2 => by have := hr b e2.symm; omega, fun k hk => ?_⟩
  obtain ⟨A', c, h1, h2, h3⟩ := hc k hk
  rw [getD_il hk]
  exact ⟨A', c, h1, h2, fun ad ha e2 => by have := hr _ e2.symm; have := h3 ad ha; omega⟩
/-- Lists of the call's own, beside a row that was laid later. -/
theorem OwnN.nestA {base : Nat} {row : Option Nat} {w w' : World} {A : Option Addr} {n c : Nat} {xss : List (List Int)} {vs : List Value} (h : OwnN base w (.slice A n c) xss vs) (hb : Below w.heap.size w w') (hr : ∀ g, row = some g → w.heap.size ≤ g) : NestA row w' A xss := by
  intro hn
  have h2 := h.later hb
  have hr1 := h.row
  have hr2 := h2.row
  rcases hr2.2 with ⟨hv, h0⟩ | ⟨g, cap, cur, hv, hbg, hg, _⟩
  · omega
  · injection hv with e1 e2 e3
    subst e1
    have hlt1 := (World.ownsRow.lt hr1 g rfl).2
    refine ⟨g, 0, rfl, (Array.getElem?_eq_some_iff.1 hg).1, fun e => by have := hr g e.symm; omega, fun k hk => ?_⟩
    obtain ⟨A', c', f1, f2, f3⟩ := h2.el k hk
    obtain ⟨A2, c2, g1, g2, g3⟩ := h.el k hk
    rw [f1] at g1
    injection g1 with g1
    injection g1 with g4 g5 g6
    subst g4
    refine ⟨A', c', ?_, f2, fun ad ha e => ?_⟩
    · rw [Nat.zero_add]
      subst e2
      rw [World.ownsRow.cellAt hr2 k (by omega)]
      exact f1
    · have := (g3 ad ha).2.1
      have := hr _ e.symm
      omega
/-- What lies in memory while flows are solved: flows in a row of the call's own, meshes apart from it. -/
structure Sol (w0 wr : World) (AV : Option Addr) (cv nx : Nat) (fl : List Int) (AM : Option Addr) (ms : List (List Int)) : Prop where
  below : Below w0.heap.size w0 wr
  own : Own w0.heap.size wr (.slice AV nx cv) fl
  nest : NestA (Value.slice AV nx cv).ownBlock wr AM ms
  len : fl.length = nx
  bd : ∀ i, i < nx → -100000 ≤ fl.getD i 0 ∧ fl.getD i 0 ≤ 100000
theorem Sol.later {w0 wr w' : World} {AV : Option Addr} {cv nx : Nat} {fl : List Int} {AM : Option Addr} {ms : List (List Int)} (h : Sol w0 wr AV cv nx fl AM ms) (hb : Below wr.heap.size wr w') : Sol w0 w' AV cv nx fl AM ms :=
  ⟨h.below.trans (hb.mono h.below.size), h.own.later hb, h.nest.grown (Below.grownBy hb _), h.len, h.bd⟩
theorem Sol.ints {w0 wr : World} {AV : Option Addr} {cv nx : Nat} {fl : List Int} {AM : Option Addr} {ms : List (List Int)} (h : Sol w0 wr AV cv nx fl AM ms) : Ints wr.heap.size wr AV fl := h.own.ints
theorem Sol.stored {w0 wr w' : World} {g cv nx : Nat} {fl fl' : List Int} {AM : Option Addr} {ms : List (List Int)} (h : Sol w0 wr (some ⟨g, 0, none⟩) cv nx fl AM ms) (hg : wr.grownBy w' (some g)) (hr : w'.ownsRow w0.heap.size 2 1 (.slice (some ⟨g, 0, none⟩) nx cv) nx (vals fl')) (hl : fl'.length = nx) (hb : ∀ i, i < nx → -100000 ≤ fl'.getD i 0 ∧ fl'.getD i 0 ≤ 100000) : Sol w0 w' (some ⟨g, 0, none⟩) cv nx fl' AM ms := by
  have hge : w0.heap.size ≤ g := (World.ownsRow.lt hr g rfl).1
  exact ⟨h.below.grown hg h.below.size (fun j hj => by injection hj with hj; omega), Own.of_row hr hl hge, h.nest.grown hg, hl, hb⟩
end Go.Proofs.YtejkoicgbgoiaaaGreat

/- Flows: flows whose meshes have small errors, by the program. Conditions: the facts on memory and on lengths that each theorem names. -/
namespace Go.Proofs.YtejkoicgbgoiaaaGreat
open Go.RowKit
open Pl
theorem ret_v3 {v : Value} {a b c d : Int} (h : (a, b) = (c, d)) : Ending.returned (.tuple #[v, .int .i64 a, .int .i64 b]) = .returned (.tuple #[v, .int .i64 c, .int .i64 d]) := by injection h with h1 h2; rw [h1, h2]
set_option maxRecDepth 100000 in
set_option maxHeartbeats 6400000 in
theorem SolveFlows_i (J : Int) (A : Option Addr) (cp : Nat) (xs : List Aw) (AR : Option Addr) (cr : Nat) (rs : List Int) (AF : Option Addr) (cf : Nat) (fs : List Fa) (AD : Option Addr) (cd : Nat) (dr : List Int) (AS : Option Addr) (cs : Nat) (st : List Int) (tol rds : Int) (w : World) (hxl : (xs.length : Int) ≤ 1048576) (hrl : rs.length ≤ 1048576) (hfl : fs.length ≤ 1048576) (hdl : dr.length ≤ 1048576) (hsl : st.length ≤ 1048576) (fX : FitsA xs) (fR : Fits rs) (fF : FitsF fs) (lF : FansLen fs) (fD : Fits dr) (fS : Fits st) (hI : Recs encA 7 w.heap.size w A xs) (hR : Ints w.heap.size w AR rs) (hF : Fns w.heap.size w AF fs) (hD : Ints w.heap.size w AD dr) (hS : Ints w.heap.size w AS st) :
    Calls Tryz.prog 64 #[.agg #[.int .i64 J, .slice A xs.length cp], .slice AR rs.length cr, .slice AF fs.length cf, .slice AD dr.length cd, .slice AS st.length cs, .int .i64 tol, .int .i64 rds] w fun e w' => ∃ u, e = .returned (.tuple #[u, .int .i64 (solveF J xs rs fs dr st tol rds).2.1, .int .i64 (solveF J xs rs fs dr st tol rds).2.2]) ∧ Own w.heap.size w' u (solveF J xs rs fs dr st tol rds).1 ∧ Below w.heap.size w w' := by
  obtain ⟨R, hRR⟩ : ∃ R, R = solveF J xs rs fs dr st tol rds := ⟨_, rfl⟩
  rw [← hRR]
  have HR := Lib.hid hRR
  have C1 := Lib.hid (fun (W : World) (hb : Below w.heap.size w W) => ValidMine_i J A cp xs w.heap.size W (by omega) fX (hI.below hb) hb.size)
  have C2 := Lib.hid (fun (W : World) (hb : Below w.heap.size w W) => ValidFans_i AF cf fs w.heap.size W (by omega) fF lF (hF.below hb) hb.size)
  have C3 := Lib.hid (fun (W : World) (hb : Below w.heap.size w W) => hasSystem_any J A cp xs AR cr rs AD cd dr AS cs st w.heap.size W (by omega) (by omega) (by omega) (by omega) (hR.below hb) (hD.below hb) (hS.below hb) hb.size fR fD fS)
  have C4 := Lib.hid (fun (W : World) (hb : Below w.heap.size w W) => hasFans_any J A cp xs.length AF cf fs w.heap.size W (by omega) (by omega) (hF.below hb) hb.size)
  have C5 := Lib.hid (fun (W : World) (hb : Below w.heap.size w W) => Clone_any AS cs st w.heap.size W hsl (hS.below hb))
  have GI := Lib.hid hI
  have GR := Lib.hid hR
  have GF := Lib.hid hF
  have GD := Lib.hid hD
  have GS := Lib.hid hS
  have be0 : Below w.heap.size w (w.alloc (.cells #[.int .i64 J, .slice A xs.length cp] 33)) := by go_grown
  have k0 : ((w.alloc (.cells #[.int .i64 J, .slice A xs.length cp] 33))).cell? ⟨w.heap.size, 0, none⟩ = some (.int .i64 J) := by go_simp
  have k1 : ((w.alloc (.cells #[.int .i64 J, .slice A xs.length cp] 33))).cell? ⟨w.heap.size, 1, none⟩ = some (.slice A xs.length cp) := by go_simp
  have szb : w.heap.size < ((w.alloc (.cells #[.int .i64 J, .slice A xs.length cp] 33))).heap.size := by simp
  have K0 := Lib.hid k0
  have K1 := Lib.hid k1
  clear hI hR hF hD hS fX fR fF lF fD fS hRR
  go_enter Tryz.func64, Tryz.ntmps64
  go_wp2_with fail
  generalize (w.alloc (.cells #[.int .i64 J, .slice A xs.length cp] 33)) = w0 at *
  refine (C1.out _ be0).mono ?_
  rintro e w1 ⟨rfl, hb1⟩
  have k01 := cell_later hb1 k0
  have k11 := cell_later hb1 k1
  have be1 := be0.trans (hb1.mono be0.size)
  have bx1 := hb1
  cases h1 : mineB J xs
  · have HG : Hid (R = ([], 0, 1)) := Lib.hid (by rw [HR.out]; unfold solveF; rw [h1]; rfl)
    clear h1
    go_wp2_with fail
    go_ret3
    refine ⟨.slice none 0 0, ret_v3 (by rw [HG.out]), ?_, be1⟩
    rw [HG.out]; exact Own.nil_ _ _
  have H1 := Lib.hid h1
  clear h1 k0 k1 hb1
  go_wp2_with fail
  refine (C2.out _ be1).mono ?_
  rintro e w2 ⟨rfl, hb2⟩
  have k02 := cell_later hb2 k01
  have k12 := cell_later hb2 k11
  have be2 := be1.trans (hb2.mono be1.size)
  have bx2 := bx1.trans (hb2.mono bx1.size)
  cases h2 : fansB fs
  · have HG : Hid (R = ([], 0, 1)) := Lib.hid (by rw [HR.out]; unfold solveF; rw [H1.out, h2]; rfl)
    clear h2
    go_wp2_with fail
    go_ret3
    refine ⟨.slice none 0 0, ret_v3 (by rw [HG.out]), ?_, be2⟩
    rw [HG.out]; exact Own.nil_ _ _
  have H2 := Lib.hid h2
  clear h2 k01 k11 hb2 bx1
  cases h3 : inB tol 0 100000
  · have HG : Hid (R = ([], 0, 2)) := Lib.hid (by rw [HR.out]; unfold solveF; rw [H1.out, H2.out, h3]; rfl)
    go_wp2_with (go_at_call 43; refine (within_any _ _ _ _).mono ?_; rintro e w' ⟨rfl, rfl⟩)
    go_ret3
    refine ⟨.slice none 0 0, ret_v3 (by rw [HG.out]), ?_, be2⟩
    rw [HG.out]; exact Own.nil_ _ _
  cases h4 : inB rds 0 500
  · have HG : Hid (R = ([], 0, 2)) := Lib.hid (by rw [HR.out]; unfold solveF; rw [H1.out, H2.out, h3, h4]; rfl)
    go_wp2_with (go_at_call 43; refine (within_any _ _ _ _).mono ?_; rintro e w' ⟨rfl, rfl⟩)
    go_ret3
    refine ⟨.slice none 0 0, ret_v3 (by rw [HG.out]), ?_, be2⟩
    rw [HG.out]; exact Own.nil_ _ _
  go_wp2_with (go_at_call 43; refine (within_any _ _ _ _).mono ?_; rintro e w' ⟨rfl, rfl⟩)
  have H3 := Lib.hid h3
  have H4 := Lib.hid h4
  obtain ⟨tol0, tol1⟩ := inB_iff.1 h3
  obtain ⟨rds0, rds1⟩ := inB_iff.1 h4
  clear h3 h4
  refine (C3.out _ be2).mono ?_
  rintro e w3 ⟨rfl, hb3⟩
  have k03 := cell_later hb3 k02
  have k13 := cell_later hb3 k12
  have be3 := be2.trans (hb3.mono be2.size)
  have bx3 := bx2.trans (hb3.mono bx2.size)
  cases h5 : sysB xs.length rs dr st
  · have HG : Hid (R = ([], 0, 7)) := Lib.hid (by rw [HR.out]; unfold solveF; rw [H1.out, H2.out, H3.out, H4.out, h5]; rfl)
    clear h5
    go_wp2_with fail
    go_ret3
    refine ⟨.slice none 0 0, ret_v3 (by rw [HG.out]), ?_, be3⟩
    rw [HG.out]; exact Own.nil_ _ _
  have H5 := Lib.hid h5
  clear h5 k02 k12 hb3 bx2
  go_wp2_with fail
  refine (C4.out _ be3).mono ?_
  rintro e w4 ⟨rfl, hb4⟩
  have k04 := cell_later hb4 k03
  have k14 := cell_later hb4 k13
  have be4 := be3.trans (hb4.mono be3.size)
  have bx4 := bx3.trans (hb4.mono bx3.size)
  cases h6 : hasFB xs.length fs
  · have HG : Hid (R = ([], 0, 7)) := Lib.hid (by rw [HR.out]; unfold solveF; rw [H1.out, H2.out, H3.out, H4.out, H5.out, h6]; rfl)
    clear h6
    go_wp2_with fail
    go_ret3
    refine ⟨.slice none 0 0, ret_v3 (by rw [HG.out]), ?_, be4⟩
    rw [HG.out]; exact Own.nil_ _ _
  have H6 := Lib.hid h6
  clear h6 k03 k13 hb4 bx3
  obtain ⟨N, rfl⟩ : ∃ N : Nat, J = (N : Int) := ⟨J.toNat, by have := (mineB_bd H1.out).1; omega⟩
  obtain ⟨⟨n1, n2⟩, nxx, _⟩ := mineB_bd H1.out
  have hN2 : N ≤ 16 := by omega
  have hx24 : xs.length ≤ 24 := by omega
  have HSY : Hid ((rs.length = xs.length ∧ ∀ i, i < xs.length → 1 ≤ rs.getD i 0 ∧ rs.getD i 0 ≤ 1000000) ∧ (dr.length = xs.length ∧ ∀ i, i < xs.length → -100000 ≤ dr.getD i 0 ∧ dr.getD i 0 ≤ 100000) ∧ (st.length = xs.length ∧ ∀ i, i < xs.length → -100000 ≤ st.getD i 0 ∧ st.getD i 0 ≤ 100000)) := Lib.hid (by
    have h := H5.out
    unfold sysB at h
    rw [Bool.and_eq_true, Bool.and_eq_true] at h
    exact ⟨lstN_iff.1 h.1, lstN_iff.1 h.2.1, lstN_iff.1 h.2.2⟩)
  have HFO : Hid (FansOk xs.length fs) := Lib.hid (fans_ok H2.out H6.out)
  have C6 := Lib.hid (balanced_any N A cp xs AS cs st w4 hN2 hx24 ((GI.out.below be4).more be4.size) ((GS.out.below be4).more be4.size) HSY.out.2.2.1 HSY.out.2.2.2)
  clear n1 n2 nxx
  go_wp2_with fail
  refine C6.out.mono ?_
  rintro e w5 ⟨rfl, hb5⟩
  have k05 := cell_later hb5 k04
  have k15 := cell_later hb5 k14
  have be5 := be4.trans (hb5.mono be4.size)
  have bx5 := bx4.trans (hb5.mono bx4.size)
  cases h7 : balB N xs st
  · have HG : Hid (R = ([], 0, 6)) := Lib.hid (by rw [HR.out]; unfold solveF; rw [H1.out, H2.out, H3.out, H4.out, H5.out, H6.out, Int.toNat_natCast, h7]; rfl)
    clear h7
    go_wp2_with fail
    go_ret3
    refine ⟨.slice none 0 0, ret_v3 (by rw [HG.out]), ?_, be5⟩
    rw [HG.out]; exact Own.nil_ _ _
  have HG : Hid (R = solveR rs dr fs (meshesF N xs) tol rds.toNat st) := Lib.hid (by rw [HR.out]; unfold solveF; rw [H1.out, H2.out, H3.out, H4.out, H5.out, H6.out, Int.toNat_natCast, h7]; rfl)
  have HMO := Lib.hid (meshes_ok hN2 hx24)
  have CM := Lib.hid (fun (W : World) (hb : Below w.heap.size w W) => meshes_any N A cp xs W ((GI.out.below hb).more hb.size) H1.out)
  clear h7 k04 k14 hb5 bx4 C6 HR H3 H4 H5 H6 C1 C2 C3 C4
  go_upto_region 9 with fail
  go_cut [17, 18] (fun s17 s18 wx => ∃ (AV : Option Addr) (cv : Nat) (AM : Option Addr) (cm : Nat), s17 = .slice AV xs.length cv ∧ s18 = .slice AM (meshesF N xs).length cm ∧ Sol w0 wx AV cv xs.length st AM (meshesF N xs))
  case first =>
    go_region_held3 (fun w' => w'.cell? ⟨w.heap.size, 0, none⟩ = some (.int .i64 (N : Int)) ∧ w'.cell? ⟨w.heap.size, 1, none⟩ = some (.slice A xs.length cp))
      (first
        | go_keep
        | exact ⟨cell_later hbc (by go_simp), cell_later hbc (by go_simp)⟩
        | exact ⟨cell_later hbm (by go_simp), cell_later hbm (by go_simp)⟩)
      (first
        | (go_at_call 63; refine (C5.out _ (by first | exact be5.drew | exact be5.drew.trans (hbm.mono be5.drew.size))).mono ?_; rintro e wc ⟨vf, rfl, hof, hbc⟩)
        | (go_at_call 93; refine (CM.out _ (by first | exact be5.drew | exact be5.drew.trans (hbc.mono be5.drew.size))).mono ?_; rintro e wm ⟨vm, vs, rfl, hom, hbm⟩))
    · obtain ⟨AV, cv, hv, -, -⟩ := hof.slice
      rw [HSY.out.2.2.1] at hv
      subst hv
      obtain ⟨AM, cm, rfl, hnl⟩ := hom.slice
      have b5 := bx5.drew
      have bc := b5.trans (hbc.mono b5.size)
      have bm := bc.trans (hbm.mono bc.size)
      have HSO : Hid (Sol w0 wm AV cv xs.length st AM (meshesF N xs)) := Lib.hid ⟨bm, (hof.later hbm).base (fun g hg => Nat.le_trans b5.size (World.ownsRow.lt hof g hg).1), NestA.new hnl (fun g hg => (World.ownsRow.lt hof g hg).2), HSY.out.2.2.1, HSY.out.2.2.2⟩
      clear hof hom hnl
      go_wp2_with fail
      go_meet
      case rel => exact ⟨AV, cv, AM, cm, rfl, rfl, HSO.out⟩
  case rest =>
    obtain ⟨AV, cv, AM, cm, rfl, rfl, hsol⟩ := hcut
    have HSOL := Lib.hid hsol
    have hml : (meshesF N xs).length ≤ 24 := HMO.out.few
    have hrl : rs.length ≤ 24 := by have := HSY.out.1.1; omega
    have hdl : dr.length ≤ 24 := by have := HSY.out.2.1.1; omega
    clear hsol k05 k15 be5 bx5 C5 CM
    generalize meshesF N xs = ms at *
    go_wp2_with fail
    go_loopw [19] (fun ss wr => ∃ (n : Nat) (fl : List Int), (n : Int) ≤ rds ∧ ss = .int .i64 n ∧ Sol w0 wr AV cv xs.length fl AM ms ∧ R = solveR rs dr fs ms tol (rds - n).toNat fl) (fun ss _ => (rds - intOf ss).toNat)
    case atStart => exact ⟨0, st, by omega, rfl, HSOL.out, by rw [HG.out]; simp⟩
    case round =>
      clear HSOL HG
      obtain ⟨n, fl, hn, rfl, hsol, hR⟩ := hrel
      have HRr := Lib.hid hR
      have hbw : Below w.heap.size w wr := be0.trans (hsol.below.mono be0.size)
      have hP := pushesOf_any xs.length AF cf fs AD cd dr AV cv fl wr.heap.size wr (Nat.le_refl _) ((GF.out.below hbw).more hbw.size) ((GD.out.below hbw).more hbw.size) hsol.ints HFO.out hx24 HSY.out.2.1.1 hsol.len HSY.out.2.1.2 hsol.bd
      rw [hsol.len] at hP
      have HP := Lib.hid hP
      have HSL := Lib.hid hsol
      clear hP hR hsol
      go_wp2_with fail
      refine HP.out.mono ?_
      rintro e w2 ⟨v2, rfl, ho2, hb2⟩
      obtain ⟨AP, cq, rfl, -, -⟩ := ho2.slice
      have hbw2 := hbw.trans (hb2.mono hbw.size)
      have HS2 := Lib.hid (HSL.out.later hb2)
      have hsys := sys_ok HFO.out HSY.out.1 HSY.out.2.1 HSL.out.len HSL.out.bd
      have hE := meshErrors_any xs.length AM cm ms AR cr rs AP cq (pushF fs fl dr) AV cv fl w2 HS2.out.nest.nest ((GR.out.below hbw2).more hbw2.size) ho2.ints HS2.out.ints hsys HMO.out hx24
      rw [HSL.out.len] at hE
      have HE := Lib.hid hE
      have HEB := Lib.hid (fun k hk => errsL_bd hsys HMO.out (k := k) hk)
      have hel : (errsL rs (pushF fs fl dr) fl ms).length ≤ 24 := by rw [errsL_length]; exact hml
      have HEL : Hid ((errsL rs (pushF fs fl dr) fl ms).length = ms.length) := Lib.hid (errsL_length _ _ _ _)
      have hpl : (pushF fs fl dr).length ≤ 24 := by rw [pushF_length]; exact hdl
      clear hE hsys ho2 HP
      go_wp2_with fail
      refine HE.out.mono ?_
      rintro e w3 ⟨v3, rfl, ho3, hb3⟩
      obtain ⟨AE, ce, rfl, hie, -⟩ := ho3.slice
      have hbw3 := hbw2.trans (hb3.mono hbw2.size)
      have HS3 := Lib.hid (HS2.out.later hb3)
      have JE := Lib.hid hie
      have HY1 := Lib.hid (fun (h : worstL (errsL rs (pushF fs fl dr) fl ms) ≤ tol) => HRr.out.trans (solveR_yes h _))
      have HY2 := Lib.hid (fun (h : tol < worstL (errsL rs (pushF fs fl dr) fl ms)) (hnr : (n : Int) = rds) => HRr.out.trans ((congrArg (fun x => solveR rs dr fs ms tol x fl) (show (rds - n).toNat = 0 by omega)).trans (solveR_full (Int.not_le.2 h))))
      have HY3 := Lib.hid (fun (h : tol < worstL (errsL rs (pushF fs fl dr) fl ms)) (hnr : (n : Int) < rds) (hp : passK rs dr fs ms fl = none) => HRr.out.trans ((congrArg (fun x => solveR rs dr fs ms tol x fl) (show (rds - n).toNat = (rds - (n + 1 : Nat)).toNat + 1 by omega)).trans (solveR_bad (Int.not_le.2 h) hp)))
      have HY4 := Lib.hid (fun (h : tol < worstL (errsL rs (pushF fs fl dr) fl ms)) (hnr : (n : Int) < rds) (fl' : List Int) (hp : passK rs dr fs ms fl = some fl') => HRr.out.trans ((congrArg (fun x => solveR rs dr fs ms tol x fl) (show (rds - n).toNat = (rds - (n + 1 : Nat)).toNat + 1 by omega)).trans (solveR_go (Int.not_le.2 h) hp)))
      clear ho3 hie HE HS2 HRr HSL
      generalize errsL rs (pushF fs fl dr) fl ms = es at *
      go_wp2_with fail
      go_loopw [20, 76] (fun u jj wx => ∃ k : Nat, k ≤ es.length ∧ jj = .int .i64 k ∧ u = .int .i64 (worstK es k) ∧ w3 = wx) (fun _ jj _ => es.length - (intOf jj).toNat)
      case atStart => exact ⟨0, Nat.zero_le _, rfl, rfl, rfl⟩
      case round =>
        obtain ⟨k, hk, rfl, rfl, rfl⟩ := hrel
        by_cases hlt : k < es.length
        · obtain ⟨ad, rfl, -, hc⟩ := JE.out.atD hlt
          have hx := HEB.out k (by have := HEL.out; omega)
          have HST : Hid (worstK es (k + 1) = mx (worstK es k) ((es.getD k 0).natAbs : Int)) := Lib.hid rfl
          have HA := Lib.hid (fun W => abs_any (es.getD k 0) W (by omega) (by omega))
          generalize worstK es k = m at *
          generalize ((es.getD k 0).natAbs : Int) = na at *
          generalize es.getD k 0 = x at *
          have j0 : (0 : Int) ≤ (k : Int) := by omega
          have j1 : (k : Int) < es.length := by omega
          go_wp2_with (go_at_call 96; refine (HA.out _).mono ?_; rintro e w' ⟨rfl, rfl⟩)
          all_goals go_roundw
          all_goals first
            | exact ⟨k + 1, by omega, by go_num, by rw [HST.out]; unfold mx; congr 1; split <;> omega, by first | trivial | rfl⟩
            | (simp [intOf]; omega)
        · obtain rfl : k = es.length := by omega
          have HW : Hid (worstL es = worstK es es.length) := Lib.hid rfl
          rw [HW.out] at HY1 HY2 HY3 HY4
          clear HW HEB JE
          generalize worstK es es.length = x at *
          by_cases hxt : x ≤ tol
          · have HZ := Lib.hid (HY1.out hxt)
            clear HY1 HY2 HY3 HY4
            go_wp2
            go_ret3
            refine ⟨_, ret_v3 (by rw [HZ.out]), ?_, hbw3⟩
            rw [HZ.out]
            exact HS3.out.own.base (fun g hg => by have := (World.ownsRow.lt HS3.out.own g hg).1; omega)
          by_cases hnr : (n : Int) = rds
          · have HZ := Lib.hid (HY2.out (by omega) hnr)
            have hnb : ((n : Int) == rds) = true := by rw [beq_iff_eq]; exact hnr
            clear HY1 HY2 HY3 HY4 hnr
            go_wp2
            go_ret3
            refine ⟨.slice none 0 0, ret_v3 (by rw [HZ.out]), ?_, hbw3⟩
            rw [HZ.out]; exact Own.nil_ _ _
          have hnb : ((n : Int) == rds) = false := by rw [beq_eq_false_iff_ne]; exact hnr
          have HZ3 := Lib.hid (HY3.out (by omega) (by omega))
          have HZ4 := Lib.hid (HY4.out (by omega) (by omega))
          clear HY1 HY2 HY3 HY4
          go_wp2_with fail
          go_loopw [98] (fun jj wx => ∃ (k : Nat) (fl' : List Int), k ≤ ms.length ∧ jj = .int .i64 k ∧ Sol w0 wx AV cv xs.length fl' AM ms ∧ passK rs dr fs (ms.drop k) fl' = passK rs dr fs ms fl) (fun jj _ => ms.length - (intOf jj).toNat)
          case atStart => exact ⟨0, fl, Nat.zero_le _, rfl, HS3.out, rfl⟩
          case round =>
            obtain ⟨k, fl', hk, rfl, hsol, hpass⟩ := hrel
            by_cases hlt : k < ms.length
            · obtain ⟨hwk, hw0, hw1⟩ := HMO.out.each k hlt
              have hnx : 0 < xs.length := by have := (hwk 0 hw0).2.1; omega
              obtain ⟨b, o, A', c', rfl, hc, hiw, hap⟩ := hsol.nest.at_ hlt
              obtain ⟨g, rfl, hg1, -⟩ := hsol.own.row (n := xs.length) hnx hsol.len
              have hbw4 : Below w.heap.size w wr := be0.trans (hsol.below.mono be0.size)
              have k0r := cell_later hsol.below K0.out
              have k1r := cell_later hsol.below K1.out
              have hP := pushesOf_any xs.length AF cf fs AD cd dr (some ⟨g, 0, none⟩) cv fl' wr.heap.size wr (Nat.le_refl _) ((GF.out.below hbw4).more hbw4.size) ((GD.out.below hbw4).more hbw4.size) hsol.ints HFO.out hx24 HSY.out.2.1.1 hsol.len HSY.out.2.1.2 hsol.bd
              rw [hsol.len] at hP
              have HP := Lib.hid hP
              have HSL := Lib.hid hsol
              have HIW := Lib.hid hiw
              have HAP := Lib.hid (fun ad (h : A' = some ad) (e : ad.block = g) => hap ad h (congrArg some e))
              have HWK := Lib.hid hwk
              have HQP := Lib.hid (passK_drop (rs := rs) (dr := dr) (fs := fs) (ms := ms) (fl := fl') hlt)
              have HPS := Lib.hid hpass
              have j0 : (0 : Int) ≤ (k : Int) := by omega
              have j1 : (k : Int) < ms.length := by omega
              clear hP hsol hiw hap hwk hpass
              generalize ms.getD k [] = wk at *
              go_wp2_with fail
              refine HP.out.mono ?_
              rintro e w4 ⟨v4, rfl, ho4, hb4⟩
              obtain ⟨AQ, cq', rfl, -, -⟩ := ho4.slice
              have hbw5 := hbw4.trans (hb4.mono hbw4.size)
              have HS4 := Lib.hid (HSL.out.later hb4)
              have hsys := sys_ok HFO.out HSY.out.1 HSY.out.2.1 HSL.out.len HSL.out.bd
              have hT := stepOf_any xs.length A' c' wk AR cr rs AQ cq' (pushF fs fl' dr) (some ⟨g, 0, none⟩) cv fl' w4.heap.size w4 ((HIW.out.below hb4).more hb4.size) ((GR.out.below hbw5).more hbw5.size) ho4.ints HS4.out.ints hsys HWK.out hx24 hw1 hw0
              rw [HSL.out.len] at hT
              have HT := Lib.hid hT
              have hqb := stepW_bd rs (pushF fs fl' dr) fl' wk
              have HIW4 := Lib.hid ((HIW.out.below hb4).more hb4.size)
              clear hT ho4 hsys HP HSL HIW
              generalize stepW rs (pushF fs fl' dr) fl' wk = q at *
              go_wp2_with fail
              refine HT.out.mono ?_
              rintro e w5 ⟨rfl, hb5⟩
              have hbw6 := hbw5.trans (hb5.mono hbw5.size)
              have HS5 := Lib.hid (HS4.out.later hb5)
              obtain ⟨g', hge, hg2, hrow⟩ := HS5.out.own.row (n := xs.length) hnx HS5.out.len
              injection hge with hge
              injection hge with hge
              subst hge
              have hA := addAlong_any xs.length g cv w0.heap.size fl' A' c' wk q w5.heap.size w5 hrow HS5.out.len ((HIW4.out.below hb5).more hb5.size) HAP.out HS5.out.bd hqb HWK.out hx24 hw1
              have HA := Lib.hid hA
              clear hA hrow HS4 HT HIW4
              go_wp2_with fail
              refine HA.out.mono ?_
              rintro e w6 ⟨rfl, hrow6, hg6⟩
              have hab := addK_bd HS5.out.len HS5.out.bd hqb HWK.out wk.length (Nat.le_refl _)
              have hal : (addW fl' wk q).length = xs.length := (addK_length _ _ _ _).trans HS5.out.len
              have hfit : Fits (addW fl' wk q) := fits_of hal (fun i hi => by have h := hab i hi; unfold addW; omega)
              have hbg6 : Below w0.heap.size w0 w6 := HS5.out.below.grown hg6 HS5.out.below.size (fun j hj => by injection hj with hj; omega)
              have hbw7 : Below w.heap.size w w6 := be0.trans (hbg6.mono be0.size)
              have k06 := cell_later hbg6 K0.out
              have k16 := cell_later hbg6 K1.out
              have hH := hasFlows_any (N : Int) A cp xs (some ⟨g, 0, none⟩) cv (addW fl' wk q) w6.heap.size w6 (by omega) (by omega) (Own.of_row hrow6 hal hg1).ints (Nat.le_refl _) hfit
              rw [hal, decide_eq_true (rfl : (xs.length : Int) = xs.length), Bool.true_and] at hH
              have HH := Lib.hid hH
              have HST : Hid (flowsB (addW fl' wk q) = true → Sol w0 w6 (some ⟨g, 0, none⟩) cv xs.length (addW fl' wk q) (some ⟨b, o, none⟩) ms) := Lib.hid (fun h => HS5.out.stored hg6 hrow6 hal (fun i hi => by
                unfold flowsB at h
                rw [allIn_up, allUp_iff] at h
                exact inB_iff.1 (h i (by omega))))
              have HFB : Hid (flowsB (addW fl' wk q) = allIn (addW fl' wk q) (-100000) 100000) := Lib.hid rfl
              rw [HFB.out] at HQP HST
              clear hab hfit hH hrow6 hg6 HA HS5 hal HFB
              generalize addW fl' wk q = fl2 at *
              go_wp2_with fail
              refine HH.out.mono ?_
              rintro e w7 ⟨rfl, hb7⟩
              cases hfb : allIn fl2 (-100000) 100000
              · have HZ := Lib.hid (HZ3.out (by rw [← HPS.out, HQP.out, hfb]; rfl))
                clear hfb
                go_wp2_with fail
                go_ret3
                refine ⟨.slice none 0 0, ret_v3 (by rw [HZ.out]), ?_, hbw7.trans (hb7.mono hbw7.size)⟩
                rw [HZ.out]; exact Own.nil_ _ _
              · have HS7 := Lib.hid ((HST.out hfb).later hb7)
                have HP7 : Hid (passK rs dr fs (ms.drop (k + 1)) fl2 = passK rs dr fs ms fl) := Lib.hid (by rw [← HPS.out, HQP.out, hfb]; rfl)
                clear hfb
                go_wp2_with fail
                go_roundw
                case rel => exact ⟨k + 1, fl2, by omega, by go_num, HS7.out, HP7.out⟩
                case measure => simp [intOf]; omega
            · obtain rfl : k = ms.length := by omega
              have HZ := Lib.hid (HZ4.out fl' (by rw [← hpass, passK_end]))
              have HSX := Lib.hid hsol
              clear hsol hpass
              go_wp2_with fail
              go_roundw
              case rel => exact ⟨n + 1, fl', by omega, by go_num, HSX.out, HZ.out⟩
              case measure => simp [intOf]; omega
end Go.Proofs.YtejkoicgbgoiaaaGreat
