/- Lists of formulas as they lie in memory. No condition. -/
import Derived.Test.YtpfinfneclmjkaaGreatDoorData
namespace Go.Proofs.YtpfinfneclmjkaaGreatDoor
open Go.RowKit V

def FmAt (P : Nat → Prop) (w : World) (b o : Nat) (f : Fm) : Prop :=
  ∃ va vc, w.cell? ⟨b, o, none⟩ = some va ∧ w.cell? ⟨b, o + 1, none⟩ = some vc ∧ FmV P w va vc f
def Fms (P : Nat → Prop) (w : World) (v : Value) (l : List Fm) : Prop :=
  (v = .slice none 0 0 ∧ l = []) ∨
  ∃ b off cap, v = .slice (some ⟨b, off, none⟩) l.length cap ∧ l.length ≤ cap ∧ cap ≤ maxLen ∧ P b ∧ b < w.heap.size ∧
    ∀ i (h : i < l.length), FmAt P w b (off + i * 2) l[i]
theorem FmAt.keep {P : Nat → Prop} {w w' : World} {b o : Nat} {a : Fm} (h : FmAt P w b o a) (hb : P b) (hs : w.heap.size ≤ w'.heap.size) (hk : ∀ k, k < w.heap.size → P k → w'.heap[k]? = w.heap[k]?) : FmAt P w' b o a := by
  obtain ⟨va, vc, h1, h2, h3⟩ := h
  have hlt : b < w.heap.size := World.block_lt_of_cell? w _ h1
  have e : ∀ i, w'.cell? ⟨b, i, none⟩ = w.cell? ⟨b, i, none⟩ := fun i => World.cell?_of_block (hk b hlt hb)
  exact ⟨va, vc, by rw [e]; exact h1, by rw [e]; exact h2, h3.keep hs hk⟩
theorem Fms.keep {P : Nat → Prop} {w w' : World} {v : Value} {l : List Fm} (h : Fms P w v l) (hs : w.heap.size ≤ w'.heap.size) (hk : ∀ k, k < w.heap.size → P k → w'.heap[k]? = w.heap[k]?) : Fms P w' v l := by
  rcases h with h | ⟨b, off, cap, h1, h2, h3, h4, h5, h6⟩
  · exact .inl h
  · exact .inr ⟨b, off, cap, h1, h2, h3, h4, by omega, fun i hi => (h6 i hi).keep h4 hs hk⟩
theorem FmAt.weak {P Q : Nat → Prop} {w : World} {b o : Nat} {a : Fm} (h : FmAt P w b o a) (hq : ∀ k, k < w.heap.size → P k → Q k) : FmAt Q w b o a := by
  obtain ⟨va, vc, h1, h2, h3⟩ := h
  exact ⟨va, vc, h1, h2, h3.weak hq⟩
theorem Fms.weak {P Q : Nat → Prop} {w : World} {v : Value} {l : List Fm} (h : Fms P w v l) (hq : ∀ k, k < w.heap.size → P k → Q k) : Fms Q w v l := by
  rcases h with h | ⟨b, off, cap, h1, h2, h3, h4, h5, h6⟩
  · exact .inl h
  · exact .inr ⟨b, off, cap, h1, h2, h3, hq b h5 h4, h5, fun i hi => (h6 i hi).weak hq⟩
theorem Fms.below {P : Nat → Prop} {w w' : World} {v : Value} {l : List Fm} (h : Fms P w v l) (hb : Below w.heap.size w w') : Fms P w' v l :=
  h.keep hb.size fun k hk _ => hb.block k hk
theorem Fms.alloc {P : Nat → Prop} {w : World} {v : Value} {l : List Fm} (h : Fms P w v l) (o : Obj) : Fms P (w.alloc o) v l :=
  h.below ((Below.refl _ w).alloc (Nat.le_refl _) o)
theorem Fms.form {P : Nat → Prop} {w : World} {v : Value} {l : List Fm} (h : Fms P w v l) : ∃ ao cap, v = .slice ao l.length cap := by
  rcases h with ⟨rfl, rfl⟩ | ⟨b, off, cap, rfl, _⟩
  · exact ⟨none, 0, rfl⟩
  · exact ⟨_, _, rfl⟩
/-- below B -/
theorem Fms.belowB {B : Nat} {w w' : World} {v : Value} {l : List Fm} (h : Fms (fun k => k < B) w v l) (hb : Below B w w') : Fms (fun k => k < B) w' v l :=
  h.keep hb.size fun k _ hp => hb.block k hp
end Go.Proofs.YtpfinfneclmjkaaGreatDoor
