/- Plain laws on all counts of so many things. No condition. -/
import Derived.Test.YtpfinfneclmjkaaGreatDoorPlain3
namespace Go.Proofs.YtpfinfneclmjkaaGreatDoor.V

/-- all ways to lay u things into k + 1 fields, one behind the other -/
def comps : Nat → Nat → List (List Int)
  | 0, u => [[(u : Int)]]
  | k + 1, u => (List.range (u + 1)).flatMap fun j => (comps k (u - j)).map ((j : Int) :: ·)
def allC (u : Nat) : List (List Int) := comps 7 u

def wt (l : List Int) : Int := l.foldl (fun a x => a * 7 + x) 0
def sumL (l : List Int) : Int := l.foldl (· + ·) 0
def goodB (l : List Int) : Bool := l.length == 8 && l.all (fun x => decide (0 ≤ x) && decide (x ≤ 6)) && decide (sumL l ≤ 6)
def chainB : List (List Int) → Bool
  | [] => true
  | [a] => afterL a == none && decide (wt a < 5764801) && goodB a
  | a :: b :: r => afterL a == some b && decide (wt a < wt b) && decide (wt a < 5764801) && goodB a && chainB (b :: r)
theorem chain_all : ∀ u : Fin 7, chainB (allC u.val) = true ∧ (allC u.val).head? = some [0, 0, 0, 0, 0, 0, 0, (u.val : Int)] := by decide +kernel

theorem chain_at {L : List (List Int)} (h : chainB L = true) : ∀ p (hp : p < L.length), goodB L[p] = true ∧ wt L[p] < 5764801 ∧
    ((∃ hq : p + 1 < L.length, afterL L[p] = some L[p + 1] ∧ wt L[p] < wt L[p + 1]) ∨ (p + 1 = L.length ∧ afterL L[p] = none)) := by
  induction L with
  | nil => intro p hp; simp at hp
  | cons a r ih =>
    intro p hp
    cases r with
    | nil =>
      simp only [chainB, Bool.and_eq_true, beq_iff_eq, decide_eq_true_eq] at h
      have : p = 0 := by simpa using hp
      subst this
      exact ⟨h.2, h.1.2, .inr ⟨rfl, h.1.1⟩⟩
    | cons b r =>
      simp only [chainB, Bool.and_eq_true, beq_iff_eq, decide_eq_true_eq] at h
      cases p with
      | zero => exact ⟨h.1.2, h.1.1.2, .inl ⟨by simp, h.1.1.1.1, h.1.1.1.2⟩⟩
      | succ p =>
        have := ih h.2 p (by simpa using hp)
        obtain ⟨h1, h2, h3⟩ := this
        refine ⟨h1, h2, ?_⟩
        rcases h3 with ⟨hq, e, g⟩ | ⟨hq, e⟩
        · exact .inl ⟨by simp at hq ⊢; omega, e, g⟩
        · exact .inr ⟨by simp at hq ⊢; omega, e⟩

/-- counts that are small -/
abbrev Ct : Type := { l : List Int // goodB l = true }
theorem good_form {l : List Int} (h : goodB l = true) : ∃ n0 n1 n2 n3 n4 n5 n6 n7, l = [n0, n1, n2, n3, n4, n5, n6, n7] ∧ (0 ≤ n0 ∧ n0 ≤ 6) ∧ (0 ≤ n1 ∧ n1 ≤ 6) ∧ (0 ≤ n2 ∧ n2 ≤ 6) ∧ (0 ≤ n3 ∧ n3 ≤ 6) ∧ (0 ≤ n4 ∧ n4 ≤ 6) ∧ (0 ≤ n5 ∧ n5 ≤ 6) ∧ (0 ≤ n6 ∧ n6 ≤ 6) ∧ (0 ≤ n7 ∧ n7 ≤ 6) ∧
    n0 + n1 + n2 + n3 + n4 + n5 + n6 + n7 ≤ 6 := by
  simp only [goodB, Bool.and_eq_true, beq_iff_eq, decide_eq_true_eq] at h
  obtain ⟨⟨h1, h2⟩, h3⟩ := h
  match l, h1 with
  | [n0, n1, n2, n3, n4, n5, n6, n7], _ =>
    simp only [List.all_cons, List.all_nil, Bool.and_true, Bool.and_eq_true, decide_eq_true_eq] at h2
    simp only [sumL, List.foldl_cons, List.foldl_nil] at h3
    exact ⟨n0, n1, n2, n3, n4, n5, n6, n7, rfl, h2.1, h2.2.1, h2.2.2.1, h2.2.2.2.1, h2.2.2.2.2.1, h2.2.2.2.2.2.1, h2.2.2.2.2.2.2.1, h2.2.2.2.2.2.2.2, by omega⟩
end Go.Proofs.YtpfinfneclmjkaaGreatDoor.V
