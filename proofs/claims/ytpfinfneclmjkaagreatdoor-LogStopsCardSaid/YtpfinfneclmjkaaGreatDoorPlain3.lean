/- Plain definitions on formulas, and on how many are in each field. No condition. -/
import Derived.Test.YtpfinfneclmjkaaGreatDoorPlain2
namespace Go.Proofs.YtpfinfneclmjkaaGreatDoor.V

def fTakes (s : Int) : Int := if s = 12 then 1 else if s = 10 ∨ s = 11 ∨ s = 13 then 2 else 0
def fSign (s : Int) : Bool := s == 12 || s == 10 || s == 11 || s == 13 || (decide (0 ≤ s) && decide (s < 6))
def formMany : Int → List Int → Option Int
  | m, [] => some m
  | m, s :: r => if m < fTakes s then none else formMany (m + (1 - fTakes s)) r
theorem formMany_nil (m : Int) : formMany m [] = some m := rfl
theorem formMany_cons (m s : Int) (r : List Int) : formMany m (s :: r) = if m < fTakes s then none else formMany (m + (1 - fTakes s)) r := rfl
theorem fTakes_bd (s : Int) : 0 ≤ fTakes s ∧ fTakes s ≤ 2 := by unfold fTakes; split <;> (try split) <;> omega

/-- the first fault of some atoms; 0: there is none -/
def atomsFault : List At → Int
  | [] => 0
  | a :: r => if atomCheck a ≠ 0 then atomCheck a else atomsFault r
/-- a sign that is none, or an atom that is not there -/
def codeBad (many : Int) (s : Int) : Bool := !fSign s || (fTakes s == 0 && decide (many ≤ s))
def formCheck (f : Fm) : Int :=
  if f.atoms.length = 0 ∨ f.code.length = 0 then 5
  else if 6 < f.atoms.length ∨ 20 < f.code.length then 4
  else if atomsFault f.atoms ≠ 0 then atomsFault f.atoms
  else if f.code.any (codeBad f.atoms.length) then 1
  else if formMany 0 f.code = some 1 then 0 else 3

def fStep (val : Int → Bool) (row : List Bool) (s : Int) : List Bool :=
  if s = 12 then match row with
    | x :: r => (!x) :: r
    | r => r
  else if s = 10 then match row with
    | x :: y :: r => (y && x) :: r
    | r => r
  else if s = 11 then match row with
    | x :: y :: r => (y || x) :: r
    | r => r
  else if s = 13 then match row with
    | x :: y :: r => (!y || x) :: r
    | r => r
  else val s :: row
def noAt : At := ⟨0, [], [], 0⟩
def fVal (f : Fm) (w : Wd) (s : Int) : Bool := atomTrue (f.atoms.getD s.toNat noAt) w
def formTrue (f : Fm) (w : Wd) : Bool := (f.code.foldl (fStep (fVal f w)) []).headD false

structure FmOk (f : Fm) : Prop where
  a0 : 0 < f.atoms.length
  a6 : f.atoms.length ≤ 6
  c0 : 0 < f.code.length
  c20 : f.code.length ≤ 20
  at0 : ∀ a ∈ f.atoms, atomCheck a = 0
  sg : ∀ s ∈ f.code, s = 12 ∨ s = 10 ∨ s = 11 ∨ s = 13 ∨ (0 ≤ s ∧ s < f.atoms.length)
  many : formMany 0 f.code = some 1
theorem atomsFault_all {l : List At} (h : atomsFault l = 0) : ∀ a ∈ l, atomCheck a = 0 := by
  induction l with
  | nil => intro a ha; simp at ha
  | cons x r ih =>
    unfold atomsFault at h
    split at h
    · rename_i h'; exact absurd h h'
    · rename_i h'
      intro a ha
      rcases List.mem_cons.1 ha with rfl | ha
      · simpa using h'
      · exact ih h a ha
theorem formCheck_ok {f : Fm} (h : formCheck f = 0) : FmOk f := by
  unfold formCheck at h
  split at h
  · simp at h
  rename_i h1
  split at h
  · simp at h
  rename_i h2
  split at h
  · rename_i h3; exact absurd h h3
  rename_i h3
  split at h
  · simp at h
  rename_i h4
  split at h
  · rename_i h5
    refine ⟨by omega, by omega, by omega, by omega, atomsFault_all (by simpa using h3), fun s hs => ?_, h5⟩
    have h6 := h4
    simp only [List.any_eq_true, not_exists, not_and, Bool.not_eq_true] at h6
    have h7 := h6 s hs
    simp only [codeBad, fSign, fTakes, Bool.or_eq_false_iff, Bool.and_eq_false_iff, Bool.not_eq_false', Bool.or_eq_true, beq_iff_eq, Bool.and_eq_true, decide_eq_true_eq, decide_eq_false_iff_not] at h7
    by_cases e12 : s = 12
    · exact .inl e12
    by_cases e10 : s = 10
    · exact .inr (.inl e10)
    by_cases e11 : s = 11
    · exact .inr (.inr (.inl e11))
    by_cases e13 : s = 13
    · exact .inr (.inr (.inr (.inl e13)))
    simp [e12, e10, e11, e13] at h7
    exact .inr (.inr (.inr (.inr (by omega))))
  · simp at h

/-- the counts behind: the last field that has one, but the first, gives one to the field ahead, the rest goes to the last -/
def afterL : List Int → Option (List Int)
  | [n0, n1, n2, n3, n4, n5, n6, n7] =>
    if n7 ≠ 0 then some [n0, n1, n2, n3, n4, n5, n6 + 1, n7 - 1]
    else if n6 ≠ 0 then some [n0, n1, n2, n3, n4, n5 + 1, 0, n6 - 1]
    else if n5 ≠ 0 then some [n0, n1, n2, n3, n4 + 1, 0, n6, n5 - 1]
    else if n4 ≠ 0 then some [n0, n1, n2, n3 + 1, 0, n5, n6, n4 - 1]
    else if n3 ≠ 0 then some [n0, n1, n2 + 1, 0, n4, n5, n6, n3 - 1]
    else if n2 ≠ 0 then some [n0, n1 + 1, 0, n3, n4, n5, n6, n2 - 1]
    else if n1 ≠ 0 then some [n0 + 1, 0, n2, n3, n4, n5, n6, n1 - 1]
    else none
  | _ => none

end Go.Proofs.YtpfinfneclmjkaaGreatDoor.V
