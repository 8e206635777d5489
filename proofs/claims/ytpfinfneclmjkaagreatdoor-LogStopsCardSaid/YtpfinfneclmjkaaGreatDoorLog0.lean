/- The log: its making, a step, how many bytes. Condition: the log lies in a block. -/
import Derived.Test.YtpfinfneclmjkaaGreatDoorSets
import Derived.Test.YtpfinfneclmjkaaGreatDoorForms
import Derived.Test.YtpfinfneclmjkaaGreatDoorGb
import Derived.Deep.Heap
namespace Go.Proofs.YtpfinfneclmjkaaGreatDoor
open Go.RowKit V

/-- a log lies in block b -/
def LogAt (w : World) (b : Nat) (u : Int) (vs : Value) (by_ : ByteArray) (safe left : Int) (st : Bool) : Prop :=
  w.heap[b]? = some (.cells #[.int .i64 u, vs, .string by_, .int .i64 safe, .int .i64 left, .bool st] 150 (0, 0))
theorem LogAt.lt {w : World} {b : Nat} {u : Int} {vs : Value} {y : ByteArray} {s l : Int} {st : Bool} (h : LogAt w b u vs y s l st) : b < w.heap.size := (Array.getElem?_eq_some_iff.1 h).1
theorem LogAt.cells {w : World} {b : Nat} {u : Int} {vs : Value} {y : ByteArray} {s l : Int} {st : Bool} (h : LogAt w b u vs y s l st) :
    w.cell? ⟨b, 0, none⟩ = some (.int .i64 u) ∧ w.cell? ⟨b, 1, none⟩ = some vs ∧ w.cell? ⟨b, 2, none⟩ = some (.string y) ∧ w.cell? ⟨b, 3, none⟩ = some (.int .i64 s) ∧ w.cell? ⟨b, 4, none⟩ = some (.int .i64 l) ∧ w.cell? ⟨b, 5, none⟩ = some (.bool st) ∧ ∀ i, w.frozen? ⟨b, i, none⟩ = false := by
  unfold LogAt at h
  refine ⟨?_, ?_, ?_, ?_, ?_, ?_, fun i => ?_⟩ <;> simp [World.cell?, World.frozen?, h]
theorem LogAt.below {w w' : World} {b B : Nat} {u : Int} {vs : Value} {y : ByteArray} {s l : Int} {st : Bool} (h : LogAt w b u vs y s l st) (hb : Below B w w') (hB : b < B) : LogAt w' b u vs y s l st := (hb.block b hB).trans h

set_option maxRecDepth 100000 in
theorem new_any (u : Int) (w : World) (hu : 0 ≤ u ∧ u ≤ 6) :
    Calls Tryz.prog 30 #[.int .i64 u] w fun e w' => ∃ b, e = .returned (.tuple #[.pointer (some ⟨b, 0, none⟩), .nilIface]) ∧ w.heap.size ≤ b ∧ LogAt w' b u (.slice none 0 0) ⟨#[]⟩ 0 (-1) false ∧ Below w.heap.size w w' := by
  go_enter Tryz.func30, Tryz.ntmps30
  go_wp2_with fail
  refine (things_any u w).mono ?_
  rintro e w' ⟨rfl, rfl⟩
  have ht : things u = true := by simp [things, hu]
  rw [ht]
  go_wp2
  exact bodyPost_ret (v := .tuple #[.pointer (some ⟨w.heap.size, 0, none⟩), .nilIface]) (by simp [results, Tryz.results30, go_sem]) rfl ⟨_, rfl, Nat.le_refl _, Deep.blk_alloc_new _ _, (Below.refl _ _).alloc (Nat.le_refl _) _⟩

set_option maxRecDepth 100000 in
theorem new_bad (u : Int) (w : World) (hu : ¬ (0 ≤ u ∧ u ≤ 6)) :
    Calls Tryz.prog 30 #[.int .i64 u] w fun e w' => e = .returned (.tuple #[.pointer none, errV 1]) ∧ w = w' := by
  go_enter Tryz.func30, Tryz.ntmps30
  go_wp2_with fail
  refine (things_any u w).mono ?_
  rintro e w' ⟨rfl, rfl⟩
  have ht : things u = false := by simp [things]; omega
  rw [ht]
  go_wp2
  exact bodyPost_ret (v := .tuple #[.pointer none, errV 1]) (by simp [results, Tryz.results30, go_sem, errV]) rfl ⟨rfl, rfl⟩

set_option maxRecDepth 100000 in
theorem step_any (b : Nat) (u : Int) (vs : Value) (y : ByteArray) (s l : Int) (st : Bool) (w : World) (h : LogAt w b u vs y s l st) (hl : -1 ≤ l ∧ l ≤ 1000000000000) :
    Calls Tryz.prog 105 #[.pointer (some ⟨b, 0, none⟩)] w fun e w' => e = .returned (.bool (l == 0)) ∧ LogAt w' b u vs y s (max (-1) (l - 1)) (l == 0) ∧ w.grownBy w' (some b) := by
  obtain ⟨c0, c1, c2, c3, c4, c5, hf⟩ := h.cells
  have f4 := hf 4
  have f5 := hf 5
  have HH := Lib.hid h
  clear h hf
  by_cases hle : l - 1 ≤ -1
  · have hm : max (-1) (l - 1) = -1 := by omega
    rw [hm]
    go_enter Tryz.func105, Tryz.ntmps105
    go_wp2
    go_ret
    refine ⟨rfl, ?_, gb_trans (gb_set _ _ _ _) (gb_set _ _ _ _)⟩
    have h := HH.out
    unfold LogAt at h ⊢
    simp [World.setCell, Array.getElem?_modify, h]
  · have hm : max (-1) (l - 1) = l - 1 := by omega
    rw [hm]
    have hlt : -1 < l - 1 := by omega
    go_enter Tryz.func105, Tryz.ntmps105
    go_wp2
    go_ret
    refine ⟨rfl, ?_, gb_trans (gb_set _ _ _ _) (gb_set _ _ _ _)⟩
    have h := HH.out
    unfold LogAt at h ⊢
    simp [World.setCell, Array.getElem?_modify, h]

set_option maxRecDepth 100000 in
theorem bytes_any (b : Nat) (u : Int) (vs : Value) (y : ByteArray) (s l : Int) (st : Bool) (w : World) (h : LogAt w b u vs y s l st) :
    Calls Tryz.prog 39 #[.pointer (some ⟨b, 0, none⟩)] w fun e w' => e = .returned (.int .i64 y.size) ∧ w = w' := by
  obtain ⟨c0, c1, c2, c3, c4, c5, hf⟩ := h.cells
  clear h hf
  go_enter Tryz.func39, Tryz.ntmps39
  go_wp2
  go_ret
  exact ⟨rfl, rfl⟩
end Go.Proofs.YtpfinfneclmjkaaGreatDoor
