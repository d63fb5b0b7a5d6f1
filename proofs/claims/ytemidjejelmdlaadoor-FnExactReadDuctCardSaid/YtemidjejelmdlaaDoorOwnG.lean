/- Rows of the call's own, of whatever elements of one cell: bytes, strings. No conditions but those that each theorem names. -/
import Derived.Test.YtemidjejelmdlaaDoorStru
import Derived.Test.YtemidjejelmdlaaDoorLater
import Derived.Maps.AppendAt
import Derived.Laws.BytesArg
namespace Go.Proofs.YtemidjejelmdlaaDoor
open Go.RowKit
open Pl
section
variable {α : Type} {enc : α → List Value} {T : TypeId} {base : Nat} {w : World} {v : Value} {xs : List α}
theorem OwnR.appended {x : α} {cs : List Value} (hx : enc x = cs) (h : w.ownsRow base T 1 v (xs.length + 1) (xs.flatMap enc ++ cs)) : OwnR T enc 1 base w v (xs ++ [x]) := by
  unfold OwnR
  rw [List.flatMap_append, List.length_append, List.flatMap_cons, List.flatMap_nil, List.append_nil, hx]
  exact h
theorem OwnR.empty (h : base ≤ w.heap.size) : OwnR T enc 1 base (w.alloc (.cells #[] T)) (.slice (some ⟨w.heap.size, 0, none⟩) 0 0) ([] : List α) :=
  ⟨rfl, .inr ⟨w.heap.size, 0, #[], rfl, h, heap_alloc_new w _, Nat.le_refl _, by simp [maxLen], rfl, rfl⟩⟩
theorem Below.appendR {B : Nat} {wd w1 : World} {o : Obj} (hb : Below B w wd) (ho : OwnR T enc 1 B wd v xs) (hB : B ≤ wd.heap.size) (hg : (wd.alloc o).grownBy w1 v.ownBlock) : Below B w w1 :=
  (hb.alloc hB o).grown hg (by simp; omega) (fun g h => (World.ownsRow.lt ho g h).1)
end
/-- Bytes. -/
def encB (b : UInt8) : List Value := [.int .u8 (b.toNat : Int)]
theorem encB_len (b : UInt8) : (encB b).length = 1 := rfl
/-- The cells of a row of bytes. -/
theorem Recs.byte {B : Nat} {w : World} {A : Option Addr} {xs : List UInt8} (h : Recs encB 1 B w A xs) {k : Nat} (hk : k < xs.length) : ∃ b o, A = some ⟨b, o, none⟩ ∧ b < B ∧ w.cell? ⟨b, o + k, none⟩ = some (.int .u8 ((xs.getD k 0).toNat : Int)) := by
  obtain ⟨b, o, e, hb, hc⟩ := h.at_ hk
  have := hc 0 _ rfl
  rw [Nat.mul_one, Nat.add_zero] at this
  refine ⟨b, o, e, hb, ?_⟩
  rw [this, show xs.getD k 0 = xs[k] by simp [List.getD, hk]]
theorem bytes_back (l : List UInt8) : strOfNums (l.map fun b => (b.toNat : Int)) = ⟨l.toArray⟩ := by
  unfold strOfNums
  rw [List.map_map]
  congr 1
  congr 1
  conv => rhs; rw [← List.map_id l]
  refine List.map_congr_left (fun b _ => ?_)
  simp
/-- A row of bytes as a string. -/
theorem bytes_string {w : World} {A : Option Addr} {n c : Nat} {xs : List UInt8} {base : Nat} {T : TypeId} (P : Program) (src e dst : TypeId) (hs : P.underlying src = some (.slice e)) (he : P.underlying e = some (.int .u8)) (hd : P.underlying dst = some .string)
    (h : OwnR T encB 1 base w (.slice A n c) xs) (hn : 0 < xs.length) (hl : xs.length = n) : (convert src dst (.slice A n c)).run P w = .ok (.string ⟨xs.toArray⟩) w := by
  subst hl
  have hr := h.rows encB_len
  obtain ⟨b, o, rfl, _, _⟩ := hr.byte hn
  rw [← bytes_back]
  refine run_convert_bytes_arg w src e hs he b o xs.length c (xs.map fun b => (b.toNat : Int)) (by simp) (fun i hi => ?_) dst hd
  obtain ⟨b', o', e', _, hc⟩ := hr.byte hi
  cases e'
  rw [hc]
  simp [List.getD, hi]
/-- Strings. -/
def encS (s : ByteArray) : List Value := [.string s]
theorem encS_len (s : ByteArray) : (encS s).length = 1 := rfl
theorem Recs.str {B : Nat} {w : World} {A : Option Addr} {xs : List ByteArray} (h : Recs encS 1 B w A xs) {k : Nat} (hk : k < xs.length) : ∃ b o, A = some ⟨b, o, none⟩ ∧ b < B ∧ w.cell? ⟨b, o + k, none⟩ = some (.string (xs.getD k ByteArray.empty)) := by
  obtain ⟨b, o, e, hb, hc⟩ := h.at_ hk
  have := hc 0 _ rfl
  rw [Nat.mul_one, Nat.add_zero] at this
  refine ⟨b, o, e, hb, ?_⟩
  rw [this, show xs.getD k ByteArray.empty = xs[k] by simp [List.getD, hk]]
end Go.Proofs.YtemidjejelmdlaaDoor
