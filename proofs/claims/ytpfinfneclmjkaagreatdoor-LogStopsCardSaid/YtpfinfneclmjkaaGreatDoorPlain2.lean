/- Plain laws on atoms. No condition. -/
import Derived.Test.YtpfinfneclmjkaaGreatDoorPlain
namespace Go.Proofs.YtpfinfneclmjkaaGreatDoor.V

structure AtOk (a : At) : Prop where
  w1 : 1 ≤ a.what
  w5 : a.what ≤ 5
  s0 : termCheck a.s = 0
  t0 : isT a.what = true → termCheck a.t = 0
  tn : isT a.what = false → a.t = []
  n0 : -20 ≤ a.n
  n1 : a.n ≤ 20
  nz : isN a.what = false → a.n = 0
theorem atomCheck_ok {a : At} (h : atomCheck a = 0) : AtOk a := by
  unfold atomCheck at h
  split at h
  · simp at h
  rename_i h1
  split at h
  · exact absurd h (by assumption)
  rename_i h2
  split at h
  · rename_i h3; exact absurd h h3.2
  rename_i h3
  split at h
  · simp at h
  rename_i h4
  split at h
  · simp at h
  rename_i h5
  have h2' : termCheck a.s = 0 := by simpa using h2
  simp only [numBad, Bool.or_eq_true, decide_eq_true_eq, Bool.and_eq_true, Bool.not_eq_true', bne_iff_ne, not_or, not_and, ne_eq] at h5
  refine ⟨by omega, by omega, h2', fun ht => ?_, fun ht => ?_, by omega, by omega, fun hn => ?_⟩
  · by_cases h6 : termCheck a.t = 0
    · exact h6
    · exact absurd ⟨ht, h6⟩ h3
  · by_cases h6 : 0 < a.t.length
    · exact absurd ⟨ht, h6⟩ h4
    · exact List.eq_nil_of_length_eq_zero (by omega)
  · have := h5.2 hn; simpa using this

theorem termRow_bd {W : Wd} (hW : WdOk W) (t : List Int) : ∀ row, Bd row → Bd (t.foldl (termStep W) row) := by
  induction t with
  | nil => intro row h; exact h
  | cons s r ih => intro row h; exact ih _ (termStep_bd hW h s)
theorem termSet_bd {W : Wd} (hW : WdOk W) (t : List Int) : 0 ≤ termSet t W ∧ termSet t W < 64 := by
  have h := termRow_bd hW t [] (fun x hx => by simp at hx)
  unfold termSet termRow
  cases hl : List.foldl (termStep W) [] t with
  | nil => simp
  | cons x r => rw [hl] at h; simpa using h x (by simp)
theorem popc_bd (n : Int) : 0 ≤ popc n ∧ popc n ≤ 6 := by
  unfold popc
  have := List.length_filter_le (fun i => n.toNat.testBit i) (List.range 6)
  simp only [List.length_range] at this
  omega
end Go.Proofs.YtpfinfneclmjkaaGreatDoor.V
