/- Plain definitions: the world of so many in each field. No condition. -/
import Derived.Test.YtpfinfneclmjkaaGreatDoorPlain4
namespace Go.Proofs.YtpfinfneclmjkaaGreatDoor.V

def bitF (f k : Nat) : Int := ((f / 2 ^ k % 2 : Nat) : Int)
def addThing (w : Wd) (f : Nat) : Wd := ⟨w.things + 1, w.a + bitF f 0 * pow2 w.things, w.b + bitF f 1 * pow2 w.things, w.c + bitF f 2 * pow2 w.things⟩
def addTimes (w : Wd) (f : Nat) : Nat → Wd
  | 0 => w
  | k + 1 => addThing (addTimes w f k) f
def madeFrom (w : Wd) (f : Nat) : List Int → Wd
  | [] => w
  | k :: r => madeFrom (addTimes w f k.toNat) (f + 1) r
def made (l : List Int) : Wd := madeFrom ⟨0, 0, 0, 0⟩ 0 l

/-- the world has so many things, and no set more -/
def WdIn (w : Wd) (n : Int) : Prop := w.things = n ∧ 0 ≤ n ∧ n ≤ 6 ∧ 0 ≤ w.a ∧ w.a < pow2 n ∧ 0 ≤ w.b ∧ w.b < pow2 n ∧ 0 ≤ w.c ∧ w.c < pow2 n
theorem pow2_succ {n : Int} (h : 0 ≤ n) : pow2 (n + 1) = 2 * pow2 n := by
  unfold pow2
  rw [show (n + 1).toNat = n.toNat + 1 by omega, Nat.pow_succ]
  omega
theorem bitF_01 (f k : Nat) : bitF f k = 0 ∨ bitF f k = 1 := by unfold bitF; omega
theorem addThing_in {w : Wd} {n : Int} (h : WdIn w n) (hn : n < 6) (f : Nat) : WdIn (addThing w f) (n + 1) := by
  obtain ⟨h1, h2, h3, h4, h5, h6, h7, h8, h9⟩ := h
  subst h1
  have hp := pow2_succ h2
  have key : ∀ x k, 0 ≤ x → x < pow2 w.things → 0 ≤ x + bitF f k * pow2 w.things ∧ x + bitF f k * pow2 w.things < pow2 (w.things + 1) := by
    intro x k hx hx'
    rcases bitF_01 f k with e | e <;> rw [e] <;> omega
  have ka := key w.a 0 h4 h5
  have kb := key w.b 1 h6 h7
  have kc := key w.c 2 h8 h9
  exact ⟨rfl, by omega, by omega, ka.1, ka.2, kb.1, kb.2, kc.1, kc.2⟩
theorem addTimes_in {w : Wd} {n : Int} (h : WdIn w n) (f : Nat) : ∀ k : Nat, n + k ≤ 6 → WdIn (addTimes w f k) (n + k)
  | 0, _ => by simpa [addTimes] using h
  | k + 1, hk => by
    have := addThing_in (addTimes_in h f k (by omega)) (by omega) f
    have e : n + (k : Int) + 1 = n + ((k + 1 : Nat) : Int) := by omega
    rw [e] at this
    exact this
theorem foldl_add (l : List Int) : ∀ a, l.foldl (· + ·) a = a + l.foldl (· + ·) 0 := by
  induction l with
  | nil => intro a; simp
  | cons x r ih => intro a; simp only [List.foldl_cons]; rw [ih (a + x), ih (0 + x)]; omega
theorem sumL_cons (x : Int) (l : List Int) : sumL (x :: l) = x + sumL l := by
  unfold sumL; simp only [List.foldl_cons]; rw [foldl_add l (0 + x)]; omega
theorem sumL_nonneg {l : List Int} (h : ∀ x ∈ l, 0 ≤ x ∧ x ≤ 6) : 0 ≤ sumL l := by
  induction l with
  | nil => simp [sumL]
  | cons x r ih => rw [sumL_cons]; have := h x (by simp); have := ih (fun z hz => h z (by simp [hz])); omega
theorem good_all {l : List Int} (h : goodB l = true) : ∀ x ∈ l, 0 ≤ x ∧ x ≤ 6 := by
  simp only [goodB, Bool.and_eq_true, List.all_eq_true, decide_eq_true_eq] at h
  exact h.1.2
end Go.Proofs.YtpfinfneclmjkaaGreatDoor.V
