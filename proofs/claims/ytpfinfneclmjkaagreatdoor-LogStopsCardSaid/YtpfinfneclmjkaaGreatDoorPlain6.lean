/- Plain laws: the world of small counts is right. No condition. -/
import Derived.Test.YtpfinfneclmjkaaGreatDoorPlain5
namespace Go.Proofs.YtpfinfneclmjkaaGreatDoor.V
theorem madeFrom_in : ∀ (r : List Int) (x : Wd) (f : Nat) (m : Int), WdIn x m → (∀ z ∈ r, 0 ≤ z ∧ z ≤ 6) → m + sumL r ≤ 6 → WdIn (madeFrom x f r) (m + sumL r)
  | [], x, f, m, h, _, _ => by simpa [madeFrom, sumL] using h
  | k :: r, x, f, m, h, hz, hs => by
    have hk := hz k (by simp)
    have hn := sumL_nonneg (l := r) (fun z h => hz z (by simp [h]))
    rw [sumL_cons] at hs ⊢
    have h1 := addTimes_in h f k.toNat (by omega)
    have h2 := madeFrom_in r _ (f + 1) _ h1 (fun z h => hz z (by simp [h])) (by omega)
    have e : m + (k.toNat : Int) + sumL r = m + (k + sumL r) := by omega
    rw [e] at h2
    exact h2
theorem good_sum {l : List Int} (h : goodB l = true) : sumL l ≤ 6 := by
  simp only [goodB, Bool.and_eq_true, decide_eq_true_eq] at h
  exact h.2
theorem made_in {l : List Int} (h : goodB l = true) : WdIn (made l) (sumL l) := by
  have := madeFrom_in l ⟨0, 0, 0, 0⟩ 0 0 (by unfold WdIn; decide) (good_all h) (by have := good_sum h; omega)
  simpa [made] using this
theorem WdIn.ok {x : Wd} {n : Int} (h : WdIn x n) : WdOk x := by
  obtain ⟨h1, h2, h3, h4, h5, h6, h7, h8, h9⟩ := h
  have hp := pow2_bd h2 h3
  exact ⟨by omega, by omega, h4, by omega, h6, by omega, h8, by omega⟩
theorem made_ok {l : List Int} (h : goodB l = true) : WdOk (made l) := (made_in h).ok
end Go.Proofs.YtpfinfneclmjkaaGreatDoor.V
