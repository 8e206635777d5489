/- What a value reads as in a world; errors; the frame of a call. No condition. -/
import Derived.Test.YtpfinfneclmjkaaGreatDoorProg
import Derived.Test.YtpfinfneclmjkaaGreatDoorPlain
import Derived.WalkKit
import Derived.WalkLawsBesides
import Derived.WalkSpells
import Derived.BigQuiet
import Derived.Deep.QuietTactic
import Derived.StillTailTactics
import Derived.Lib.Hide
import Derived.Deep.LoopGhost
import Derived.Deep.DeepMust
import Derived.Deep.DeepFit
import Derived.Deep.RegionHeld3
import Derived.Deep.AppendLies
import Derived.Deep.RegionLaw
import Derived.Deep.RegionWith
import Derived.Deep.DeepCutAuto
namespace Go.Proofs.YtpfinfneclmjkaaGreatDoor
open Go.RowKit

/-- an error by its number -/
def errV (c : Int) : Value := if c = 0 then .nilIface else .iface 135 (.int .i64 c)
theorem errV_zero : errV 0 = .nilIface := rfl
theorem errV_ne {c : Int} (h : c ≠ 0) : errV c = .iface 135 (.int .i64 c) := by simp [errV, h]

/-- a slice of ints that reads as l, its cells in blocks of P -/
def Ints (P : Nat → Prop) (w : World) (v : Value) (l : List Int) : Prop :=
  (∃ ao, v = .slice ao 0 0 ∧ l = []) ∨
  ∃ b off cap, v = .slice (some ⟨b, off, none⟩) l.length cap ∧ l.length ≤ cap ∧ cap ≤ maxLen ∧ P b ∧ b < w.heap.size ∧
    ∀ i (h : i < l.length), w.cell? ⟨b, off + i, none⟩ = some (.int .i64 l[i])

theorem Ints.keep {P : Nat → Prop} {w w' : World} {v : Value} {l : List Int} (h : Ints P w v l) (hs : w.heap.size ≤ w'.heap.size) (hk : ∀ k, k < w.heap.size → P k → w'.heap[k]? = w.heap[k]?) : Ints P w' v l := by
  rcases h with h | ⟨b, off, cap, h1, h2, h3, h4, h5, h6⟩
  · exact .inl h
  · exact .inr ⟨b, off, cap, h1, h2, h3, h4, by omega, fun i hi => by rw [World.cell?_of_block (hk b h5 h4)]; exact h6 i hi⟩
theorem Ints.weak {P Q : Nat → Prop} {w : World} {v : Value} {l : List Int} (h : Ints P w v l) (hq : ∀ k, k < w.heap.size → P k → Q k) : Ints Q w v l := by
  rcases h with h | ⟨b, off, cap, h1, h2, h3, h4, h5, h6⟩
  · exact .inl h
  · exact .inr ⟨b, off, cap, h1, h2, h3, hq b h5 h4, h5, h6⟩
theorem Ints.below {P : Nat → Prop} {w w' : World} {v : Value} {l : List Int} (h : Ints P w v l) (hb : Below w.heap.size w w') : Ints P w' v l :=
  h.keep hb.size fun k hk _ => hb.block k hk

theorem Ints.form {P : Nat → Prop} {w : World} {v : Value} {l : List Int} (h : Ints P w v l) : ∃ ao cap, v = .slice ao l.length cap := by
  rcases h with ⟨ao, rfl, rfl⟩ | ⟨b, off, cap, rfl, _⟩
  · exact ⟨ao, 0, rfl⟩
  · exact ⟨_, _, rfl⟩
theorem Ints.alloc {P : Nat → Prop} {w : World} {v : Value} {l : List Int} (h : Ints P w v l) (o : Obj) : Ints P (w.alloc o) v l :=
  h.below ((Below.refl _ w).alloc (Nat.le_refl _) o)
theorem Ints.drew {P : Nat → Prop} {w : World} {v : Value} {l : List Int} (h : Ints P w v l) : Ints P w.drew v l := h

/-- the words of the kinds of atoms, and what an atom has beside S -/
def kw (m : Nat) : ByteArray := ⟨(match m with | 1 => [115, 117, 98] | 2 => [115, 97, 109, 101] | 3 => [108, 101, 97, 115, 116] | 4 => [109, 111, 115, 116] | 5 => [110, 111, 109, 111, 114, 101] | _ => [] : List UInt8).toArray⟩
def kt (m : Nat) : Bool := m == 1 || m == 2 || m == 5
def kn (m : Nat) : Bool := m == 3 || m == 4 || m == 5

/-- the table of the kinds lies as its text lays it -/
def Kinds (w : World) : Prop := ∀ m, m < 6 → w.cell? ⟨0, m * 3, none⟩ = some (.string (kw m)) ∧ w.cell? ⟨0, m * 3 + 1, none⟩ = some (.bool (kt m)) ∧ w.cell? ⟨0, m * 3 + 2, none⟩ = some (.bool (kn m))
theorem Kinds.size {w : World} (h : Kinds w) : 0 < w.heap.size := World.block_lt_of_cell? w _ (h 0 (by decide)).1
theorem Kinds.below {w w' : World} (h : Kinds w) {B : Nat} (hb : Below B w w') (hB : 0 < B) : Kinds w' := fun m hm => by
  have h' := h m hm
  refine ⟨?_, ?_, ?_⟩
  · exact (hb.cell (p := ⟨0, m * 3, none⟩) hB).trans h'.1
  · exact (hb.cell (p := ⟨0, m * 3 + 1, none⟩) hB).trans h'.2.1
  · exact (hb.cell (p := ⟨0, m * 3 + 2, none⟩) hB).trans h'.2.2
theorem Kinds.keep {w w' : World} (h : Kinds w) (hb : Below w.heap.size w w') : Kinds w' := h.below hb h.size

theorem bcell {B : Nat} {W w1 : World} (hb : Below B W w1) : (∀ b o, b < B → w1.cell? ⟨b, o, none⟩ = W.cell? ⟨b, o, none⟩) ∧ (∀ b o, b < B → w1.frozen? ⟨b, o, none⟩ = W.frozen? ⟨b, o, none⟩) :=
  ⟨fun b o h => hb.cell (p := ⟨b, o, none⟩) h, fun b o h => hb.frozen (p := ⟨b, o, none⟩) h⟩

/-- F is called by its body -/
def Enters (F : FuncId) : Prop := ∀ args w, (callFunc F args).run Tryz.prog w = .ok (.enter F args) w

theorem ret_int {k : IntKind} {a b : Int} (h : a = b) : Ending.returned (.int k a) = .returned (.int k b) := by rw [h]
theorem ret_bool {a b : Bool} (h : a = b) : Ending.returned (.bool a) = .returned (.bool b) := by rw [h]

end Go.Proofs.YtpfinfneclmjkaaGreatDoor
