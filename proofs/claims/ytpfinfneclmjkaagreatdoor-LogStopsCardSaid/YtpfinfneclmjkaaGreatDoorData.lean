/- Atoms and formulas as they lie in memory. No condition. -/
import Derived.Test.YtpfinfneclmjkaaGreatDoorBase
import Derived.Test.YtpfinfneclmjkaaGreatDoorPlain3
namespace Go.Proofs.YtpfinfneclmjkaaGreatDoor
open Go.RowKit V

/-- the atom a lies at ⟨b, o⟩ -/
def AtAt (P : Nat → Prop) (w : World) (b o : Nat) (a : At) : Prop :=
  ∃ vs vt, w.cell? ⟨b, o, none⟩ = some (.int .i64 a.what) ∧ w.cell? ⟨b, o + 1, none⟩ = some vs ∧ Ints P w vs a.s ∧ w.cell? ⟨b, o + 2, none⟩ = some vt ∧ Ints P w vt a.t ∧ w.cell? ⟨b, o + 3, none⟩ = some (.int .i64 a.n)
def Ats (P : Nat → Prop) (w : World) (v : Value) (l : List At) : Prop :=
  (∃ ao, v = .slice ao 0 0 ∧ l = []) ∨
  ∃ b off cap, v = .slice (some ⟨b, off, none⟩) l.length cap ∧ l.length ≤ cap ∧ cap ≤ maxLen ∧ P b ∧ b < w.heap.size ∧
    ∀ i (h : i < l.length), AtAt P w b (off + i * 4) l[i]

theorem AtAt.keep {P : Nat → Prop} {w w' : World} {b o : Nat} {a : At} (h : AtAt P w b o a) (hb : P b) (hs : w.heap.size ≤ w'.heap.size) (hk : ∀ k, k < w.heap.size → P k → w'.heap[k]? = w.heap[k]?) : AtAt P w' b o a := by
  obtain ⟨vs, vt, h1, h2, h3, h4, h5, h6⟩ := h
  have hlt : b < w.heap.size := World.block_lt_of_cell? w _ h1
  have e : ∀ i, w'.cell? ⟨b, i, none⟩ = w.cell? ⟨b, i, none⟩ := fun i => World.cell?_of_block (hk b hlt hb)
  exact ⟨vs, vt, by rw [e]; exact h1, by rw [e]; exact h2, h3.keep hs hk, by rw [e]; exact h4, h5.keep hs hk, by rw [e]; exact h6⟩
theorem Ats.keep {P : Nat → Prop} {w w' : World} {v : Value} {l : List At} (h : Ats P w v l) (hs : w.heap.size ≤ w'.heap.size) (hk : ∀ k, k < w.heap.size → P k → w'.heap[k]? = w.heap[k]?) : Ats P w' v l := by
  rcases h with h | ⟨b, off, cap, h1, h2, h3, h4, h5, h6⟩
  · exact .inl h
  · exact .inr ⟨b, off, cap, h1, h2, h3, h4, by omega, fun i hi => (h6 i hi).keep h4 hs hk⟩
theorem AtAt.weak {P Q : Nat → Prop} {w : World} {b o : Nat} {a : At} (h : AtAt P w b o a) (hq : ∀ k, k < w.heap.size → P k → Q k) : AtAt Q w b o a := by
  obtain ⟨vs, vt, h1, h2, h3, h4, h5, h6⟩ := h
  exact ⟨vs, vt, h1, h2, h3.weak hq, h4, h5.weak hq, h6⟩
theorem Ats.weak {P Q : Nat → Prop} {w : World} {v : Value} {l : List At} (h : Ats P w v l) (hq : ∀ k, k < w.heap.size → P k → Q k) : Ats Q w v l := by
  rcases h with h | ⟨b, off, cap, h1, h2, h3, h4, h5, h6⟩
  · exact .inl h
  · exact .inr ⟨b, off, cap, h1, h2, h3, hq b h5 h4, h5, fun i hi => (h6 i hi).weak hq⟩
theorem Ats.below {P : Nat → Prop} {w w' : World} {v : Value} {l : List At} (h : Ats P w v l) (hb : Below w.heap.size w w') : Ats P w' v l :=
  h.keep hb.size fun k hk _ => hb.block k hk
theorem Ats.alloc {P : Nat → Prop} {w : World} {v : Value} {l : List At} (h : Ats P w v l) (o : Obj) : Ats P (w.alloc o) v l :=
  h.below ((Below.refl _ w).alloc (Nat.le_refl _) o)
theorem Ats.form {P : Nat → Prop} {w : World} {v : Value} {l : List At} (h : Ats P w v l) : ∃ ao cap, v = .slice ao l.length cap := by
  rcases h with ⟨ao, rfl, rfl⟩ | ⟨b, off, cap, rfl, _⟩
  · exact ⟨ao, 0, rfl⟩
  · exact ⟨_, _, rfl⟩

/-- the formula f, its two fields' values va, vc -/
def FmV (P : Nat → Prop) (w : World) (va vc : Value) (f : Fm) : Prop := Ats P w va f.atoms ∧ Ints P w vc f.code
theorem FmV.below {P : Nat → Prop} {w w' : World} {va vc : Value} {f : Fm} (h : FmV P w va vc f) (hb : Below w.heap.size w w') : FmV P w' va vc f := ⟨h.1.below hb, h.2.below hb⟩
theorem FmV.alloc {P : Nat → Prop} {w : World} {va vc : Value} {f : Fm} (h : FmV P w va vc f) (o : Obj) : FmV P (w.alloc o) va vc f := ⟨h.1.alloc o, h.2.alloc o⟩
theorem FmV.keep {P : Nat → Prop} {w w' : World} {va vc : Value} {f : Fm} (h : FmV P w va vc f) (hs : w.heap.size ≤ w'.heap.size) (hk : ∀ k, k < w.heap.size → P k → w'.heap[k]? = w.heap[k]?) : FmV P w' va vc f := ⟨h.1.keep hs hk, h.2.keep hs hk⟩
theorem FmV.weak {P Q : Nat → Prop} {w : World} {va vc : Value} {f : Fm} (h : FmV P w va vc f) (hq : ∀ k, k < w.heap.size → P k → Q k) : FmV Q w va vc f := ⟨h.1.weak hq, h.2.weak hq⟩
end Go.Proofs.YtpfinfneclmjkaaGreatDoor
