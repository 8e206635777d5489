/- atom.Check of any atom. Conditions: its terms lie; the table of the kinds lies as its text lays it. -/
import Derived.Test.YtpfinfneclmjkaaGreatDoorAtom
namespace Go.Proofs.YtpfinfneclmjkaaGreatDoor
open Go.RowKit V

set_option maxRecDepth 100000 in
theorem atomCheck_any {P : Nat → Prop} (vs vt : Value) (m : Int) (s t : List Int) (n : Int) (w : World) (hs : Ints P w vs s) (ht : Ints P w vt t) (hk : Kinds w) :
    Calls Tryz.prog 73 #[.agg #[.int .i64 m, vs, vt, .int .i64 n]] w fun e w' => e = .returned (errV (atomCheck ⟨m, s, t, n⟩)) ∧ Below w.heap.size w w' := by
  by_cases h : m < 1 ∨ 5 < m
  · have hc : atomCheck ⟨m, s, t, n⟩ = 1 := by simp [atomCheck, h]
    obtain ⟨sa, sc, rfl⟩ := hs.form
    obtain ⟨ta, tc, rfl⟩ := ht.form
    rw [hc, errV_ne (by decide)]
    by_cases h1 : m < 1
    · go_enter Tryz.func73, Tryz.ntmps73
      go_wp2
      go_ret
      exact ⟨rfl, (Below.refl _ _).alloc (Nat.le_refl _) _⟩
    · have h5 : 5 < m := by omega
      go_enter Tryz.func73, Tryz.ntmps73
      go_wp2
      go_ret
      exact ⟨rfl, (Below.refl _ _).alloc (Nat.le_refl _) _⟩
  · obtain ⟨k, rfl⟩ := Int.eq_ofNat_of_zero_le (show 0 ≤ m by omega)
    exact atomCheck_in vs vt k s t n w (by omega) (by omega) hs ht hk
end Go.Proofs.YtpfinfneclmjkaaGreatDoor
