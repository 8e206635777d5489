/- Rows of atoms of a call's own; what keeps them. No condition. -/
import Derived.Test.YtpfinfneclmjkaaGreatDoorClone
import Derived.Test.YtpfinfneclmjkaaGreatDoorGb
import Derived.Deep.Heap
namespace Go.Proofs.YtpfinfneclmjkaaGreatDoor
open Go.RowKit V

theorem AtAt.gb {P : Nat → Prop} {w w' : World} {b o : Nat} {a : At} {row : Option Nat} (h : AtAt P w b o a) (hg : w.grownBy w' row) (hb : some b ≠ row) (hP : ∀ k, P k → some k ≠ row) : AtAt P w' b o a := by
  obtain ⟨vs, vt, h1, h2, h3, h4, h5, h6⟩ := h
  exact ⟨vs, vt, hg.cell h1 hb, hg.cell h2 hb, h3.keep hg.size (fun k hk hp => hg.block k hk (hP k hp)), hg.cell h4 hb, h5.keep hg.size (fun k hk hp => hg.block k hk (hP k hp)), hg.cell h6 hb⟩

/-- a store elsewhere in the row -/
theorem AtAt.set {P : Nat → Prop} {w : World} {b o q : Nat} {a : At} (h : AtAt P w b o a) (hP : ¬ P b) (hq : q < o ∨ o + 3 < q) (u : Value) : AtAt P (w.setCell ⟨b, q, none⟩ u) b o a := by
  obtain ⟨vs, vt, h1, h2, h3, h4, h5, h6⟩ := h
  have e : ∀ i, i ≠ q → (w.setCell ⟨b, q, none⟩ u).cell? ⟨b, i, none⟩ = w.cell? ⟨b, i, none⟩ := fun i _ => World.cell?_setCell_other _ _ _ _ (by simp)
  have g := gb_set w b q u
  have k : ∀ k, k < w.heap.size → P k → (w.setCell ⟨b, q, none⟩ u).heap[k]? = w.heap[k]? := fun k hk hp => g.block k hk (by simp; intro e; exact hP (e ▸ hp))
  exact ⟨vs, vt, by rw [e _ (by omega)]; exact h1, by rw [e _ (by omega)]; exact h2, h3.keep g.size k, by rw [e _ (by omega)]; exact h4, h5.keep g.size k, by rw [e _ (by omega)]; exact h6⟩

/-- a row of atoms that is copied up to the k-th -/
def PartA (B k : Nat) (P Q : Nat → Prop) (w : World) (v : Value) (l : List At) : Prop :=
  (v = .slice none 0 0 ∧ l = []) ∨
  ∃ g cap, v = .slice (some ⟨g, 0, none⟩) l.length cap ∧ l.length ≤ cap ∧ cap ≤ maxLen ∧ B ≤ g ∧ g < w.heap.size ∧ (∀ i, w.frozen? ⟨g, i, none⟩ = false) ∧
    (∀ i (h : i < l.length), k ≤ i → AtAt P w g (i * 4) l[i]) ∧ (∀ i (h : i < l.length), i < k → AtAt Q w g (i * 4) l[i])
theorem OwnA.part {B : Nat} {P : Nat → Prop} {w : World} {v : Value} {l : List At} (h : OwnA B P w v l) (Q : Nat → Prop) : PartA B 0 P Q w v l := by
  rcases h with h | ⟨g, cap, h1, h2, h3, h4, h5, h6, h7⟩
  · exact .inl h
  · exact .inr ⟨g, cap, h1, h2, h3, h4, h5, h6, fun i hi _ => h7 i hi, fun i hi h => by omega⟩
theorem OwnA.below' {B : Nat} {P : Nat → Prop} {w w' : World} {v : Value} {l : List At} (h : OwnA B P w v l) (hb : Below w.heap.size w w') : OwnA B P w' v l := by
  rcases h with h | ⟨g, cap, h1, h2, h3, h4, h5, h6, h7⟩
  · exact .inl h
  · exact .inr ⟨g, cap, h1, h2, h3, h4, Nat.lt_of_lt_of_le h5 hb.size, fun i => (hb.frozen (p := ⟨g, i, none⟩) h5).trans (h6 i), fun i hi => (h7 i hi).gb (row := none) (gb_below hb) (by simp) (by simp)⟩
theorem OwnA.gb {B : Nat} {P : Nat → Prop} {w w' : World} {v : Value} {l : List At} {row : Option Nat} (h : OwnA B P w v l) (hg : w.grownBy w' row) (hr : ∀ r, row = some r → r < B ∧ ¬ P r) : OwnA B P w' v l := by
  rcases h with h | ⟨g, cap, h1, h2, h3, h4, h5, h6, h7⟩
  · exact .inl h
  · have hne : some g ≠ row := fun e => by have := (hr g e.symm).1; omega
    exact .inr ⟨g, cap, h1, h2, h3, h4, Nat.lt_of_lt_of_le h5 hg.size, fun i => (World.frozen?_of_block (a := ⟨g, i, none⟩) (hg.block g h5 hne)).trans (h6 i), fun i hi => (h7 i hi).gb hg hne (fun k hk e => (hr k e.symm).2 hk)⟩
theorem OwnI.base {B B' : Nat} {w : World} {v : Value} {l : List Int} (h : OwnI B w v l) (hB : B' ≤ B) : OwnI B' w v l :=
  ⟨h.1, h.2.imp id fun ⟨g, cap, cur, a, b, r⟩ => ⟨g, cap, cur, a, Nat.le_trans hB b, r⟩⟩
theorem OwnI.gb {B : Nat} {w w' : World} {v : Value} {l : List Int} {row : Option Nat} (h : OwnI B w v l) (hg : w.grownBy w' row) (hne : v.ownBlock = none ∨ v.ownBlock ≠ row) : OwnI B w' v l :=
  World.ownsRow.kept h hg hne

end Go.Proofs.YtpfinfneclmjkaaGreatDoor
