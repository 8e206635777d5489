/- Plain definitions: what the functions of the program compute, in Lean, with no program in sight. No condition. -/
import Derived.Laws.BitsLemmas
namespace Go.Proofs.YtpfinfneclmjkaaGreatDoor.V

structure At where
  what : Int
  s : List Int
  t : List Int
  n : Int

structure Fm where
  atoms : List At
  code : List Int

structure Wd where
  things : Int
  a : Int
  b : Int
  c : Int

def takes (s : Int) : Int := if s = 8 then 1 else if 5 ≤ s then 2 else 0

/-- the row of a term: how many there are behind it; none: a sign lacks what it takes -/
def termMany : Int → List Int → Option Int
  | m, [] => some m
  | m, s :: r => if m < takes s then none else termMany (m + (1 - takes s)) r

theorem termMany_nil (m : Int) : termMany m [] = some m := rfl
theorem termMany_cons (m s : Int) (r : List Int) : termMany m (s :: r) = if m < takes s then none else termMany (m + (1 - takes s)) r := rfl

def signBad (s : Int) : Bool := decide (s < 0) || decide (8 < s)

def termCheck (t : List Int) : Int :=
  if t.length = 0 then 5
  else if 12 < t.length then 4
  else if t.any signBad then 1
  else if termMany 0 t = some 1 then 0 else 3

def pow2 (n : Int) : Int := ((2 ^ n.toNat : Nat) : Int)

def things (u : Int) : Bool := decide (0 ≤ u) && decide (u ≤ 6)

def setCheck (u s : Int) : Int := if 0 ≤ u ∧ u ≤ 6 ∧ 0 ≤ s ∧ s ≤ pow2 u - 1 then 0 else 1

def wdCheck (w : Wd) : Int :=
  if setCheck w.things w.a = 0 ∧ setCheck w.things w.b = 0 ∧ setCheck w.things w.c = 0 then 0 else 1

/-- sets as numbers below 64 -/
def orS (a b : Int) : Int := ((a.toNat ||| b.toNat : Nat) : Int)
def andS (a b : Int) : Int := ((a.toNat &&& b.toNat : Nat) : Int)
def lessS (a b : Int) : Int := ((a.toNat &&& (63 ^^^ b.toNat) : Nat) : Int)
def ofSet (what : Int) (u a b : Int) : Int :=
  if what = 5 then orS a b
  else if what = 6 then andS a b
  else if what = 7 then lessS a b
  else lessS (pow2 u - 1) a

def Wd.has (w : Wd) (i : Int) : Int := if i = 0 then w.a else if i = 1 then w.b else w.c

/-- one sign upon a row (its last first) -/
def termStep (w : Wd) (row : List Int) (s : Int) : List Int :=
  if s < 3 then w.has s :: row
  else if s = 3 then 0 :: row
  else if s = 4 then (pow2 w.things - 1) :: row
  else if s = 8 then match row with
    | x :: r => ofSet 8 w.things x 0 :: r
    | r => r
  else match row with
    | y :: x :: r => ofSet s w.things x y :: r
    | r => r

def termRow (w : Wd) (t : List Int) : List Int := t.foldl (termStep w) []
def termSet (t : List Int) (w : Wd) : Int := (termRow w t).headD 0

def popc (n : Int) : Int := (((List.range 6).filter (fun i => n.toNat.testBit i)).length : Int)

theorem six {u : Int} (h0 : 0 ≤ u) (h6 : u ≤ 6) : u = 0 ∨ u = 1 ∨ u = 2 ∨ u = 3 ∨ u = 4 ∨ u = 5 ∨ u = 6 := by omega
theorem pow2_bd {u : Int} (h0 : 0 ≤ u) (h6 : u ≤ 6) : 1 ≤ pow2 u ∧ pow2 u ≤ 64 ∧ (2 : Int) ^ u.toNat = pow2 u := by
  rcases six h0 h6 with rfl | rfl | rfl | rfl | rfl | rfl | rfl <;> decide

theorem setCheck_01 (u s : Int) : setCheck u s = 0 ∨ setCheck u s = 1 := by unfold setCheck; split <;> simp
theorem setCheck_ok {u s : Int} (h : setCheck u s = 0) : 0 ≤ u ∧ u ≤ 6 ∧ 0 ≤ s ∧ s ≤ pow2 u - 1 := by
  unfold setCheck at h; split at h
  · assumption
  · simp at h
theorem setCheck_64 {u s : Int} (h : setCheck u s = 0) : 0 ≤ s ∧ s < 64 := by
  obtain ⟨h0, h6, hs, hp⟩ := setCheck_ok h
  have := pow2_bd h0 h6
  omega

theorem takes_bd (s : Int) : 0 ≤ takes s ∧ takes s ≤ 2 := by unfold takes; split <;> (try split) <;> omega

theorem termCheck_ok {t : List Int} (h : termCheck t = 0) : 0 < t.length ∧ t.length ≤ 12 ∧ (∀ s ∈ t, 0 ≤ s ∧ s ≤ 8) ∧ termMany 0 t = some 1 := by
  unfold termCheck at h
  split at h
  · simp at h
  split at h
  · simp at h
  split at h
  · simp at h
  split at h
  · rename_i h1 h2 h3 h4
    refine ⟨by omega, by omega, fun s hs => ?_, h4⟩
    have := h3
    simp only [List.any_eq_true, not_exists, not_and, Bool.not_eq_true] at this
    have := this s hs
    simp [signBad] at this
    omega
  · simp at h

theorem bits_tab : ∀ a : Fin 64, ∀ b : Fin 64, bits .or .i64 ((a.val : Nat) : Int) ((b.val : Nat) : Int) = ((a.val ||| b.val : Nat) : Int) ∧ bits .and .i64 ((a.val : Nat) : Int) ((b.val : Nat) : Int) = ((a.val &&& b.val : Nat) : Int) ∧
    bits .andNot .i64 ((a.val : Nat) : Int) ((b.val : Nat) : Int) = ((a.val &&& (63 ^^^ b.val) : Nat) : Int) := by decide +kernel
theorem bits_i64 {a b : Int} (ha : 0 ≤ a) (ha' : a < 64) (hb : 0 ≤ b) (hb' : b < 64) : bits .or .i64 a b = orS a b ∧ bits .and .i64 a b = andS a b ∧ bits .andNot .i64 a b = lessS a b := by
  obtain ⟨x, rfl⟩ := Int.eq_ofNat_of_zero_le ha
  obtain ⟨y, rfl⟩ := Int.eq_ofNat_of_zero_le hb
  have := bits_tab ⟨x, by omega⟩ ⟨y, by omega⟩
  simpa [orS, andS, lessS] using this
theorem popc_tab : ∀ a : Fin 64, popc ((a.val : Nat) : Int) = ((((a.val) % 2) + (a.val / 2 % 2) + (a.val / 4 % 2) + (a.val / 8 % 2) + (a.val / 16 % 2) + (a.val / 32 % 2) : Nat) : Int) := by decide +kernel

theorem sets_tab : ∀ a : Fin 64, ∀ b : Fin 64, (a.val ||| b.val) < 64 ∧ (a.val &&& b.val) < 64 ∧ (a.val &&& (63 ^^^ b.val)) < 64 := by decide +kernel
theorem ofSet_bd {what u a b : Int} (h0 : 0 ≤ u) (h6 : u ≤ 6) (ha : 0 ≤ a) (ha' : a < 64) (hb : 0 ≤ b) (hb' : b < 64) : 0 ≤ ofSet what u a b ∧ ofSet what u a b < 64 := by
  have hp := pow2_bd h0 h6
  obtain ⟨x, rfl⟩ := Int.eq_ofNat_of_zero_le ha
  obtain ⟨y, rfl⟩ := Int.eq_ofNat_of_zero_le hb
  obtain ⟨z, hz⟩ := Int.eq_ofNat_of_zero_le (show 0 ≤ pow2 u - 1 by omega)
  have t1 := sets_tab ⟨x, by omega⟩ ⟨y, by omega⟩
  have t2 := sets_tab ⟨z, by omega⟩ ⟨x, by omega⟩
  unfold ofSet orS andS lessS
  rw [hz]
  simp only [Int.toNat_natCast] at *
  split
  · omega
  split
  · omega
  split <;> omega

structure WdOk (w : Wd) : Prop where
  u0 : 0 ≤ w.things
  u6 : w.things ≤ 6
  a0 : 0 ≤ w.a
  a1 : w.a < 64
  b0 : 0 ≤ w.b
  b1 : w.b < 64
  c0 : 0 ≤ w.c
  c1 : w.c < 64
theorem wdCheck_ok {w : Wd} (h : wdCheck w = 0) : WdOk w := by
  unfold wdCheck at h
  split at h
  · rename_i h'
    obtain ⟨h1, h2, h3⟩ := h'
    have g := setCheck_ok h1
    have ga := setCheck_64 h1
    have gb := setCheck_64 h2
    have gc := setCheck_64 h3
    exact ⟨g.1, g.2.1, ga.1, ga.2, gb.1, gb.2, gc.1, gc.2⟩
  · simp at h

def Bd (row : List Int) : Prop := ∀ x ∈ row, 0 ≤ x ∧ x < 64

theorem termStep_low {W : Wd} {row : List Int} {s : Int} (h : s < 3) : termStep W row s = W.has s :: row := by simp [termStep, h]
theorem termStep_bd {W : Wd} (hW : WdOk W) {row : List Int} (hr : Bd row) (s : Int) : Bd (termStep W row s) := by
  have hp := pow2_bd hW.u0 hW.u6
  have hh : ∀ i, 0 ≤ W.has i ∧ W.has i < 64 := by
    intro i; unfold Wd.has; split
    · exact ⟨hW.a0, hW.a1⟩
    split
    · exact ⟨hW.b0, hW.b1⟩
    · exact ⟨hW.c0, hW.c1⟩
  unfold termStep
  split
  · intro x hx; rcases List.mem_cons.1 hx with rfl | hx
    · exact hh s
    · exact hr x hx
  split
  · intro x hx; rcases List.mem_cons.1 hx with rfl | hx
    · omega
    · exact hr x hx
  split
  · intro x hx; rcases List.mem_cons.1 hx with rfl | hx
    · omega
    · exact hr x hx
  split
  · split
    · rename_i y r
      intro x hx; rcases List.mem_cons.1 hx with rfl | hx
      · exact ofSet_bd hW.u0 hW.u6 (hr y (by simp)).1 (hr y (by simp)).2 (by omega) (by omega)
      · exact hr x (by simp [hx])
    · exact hr
  · split
    · rename_i y z r
      intro x hx; rcases List.mem_cons.1 hx with rfl | hx
      · exact ofSet_bd hW.u0 hW.u6 (hr z (by simp)).1 (hr z (by simp)).2 (hr y (by simp)).1 (hr y (by simp)).2
      · exact hr x (by simp [hx])
    · exact hr

def isT (m : Int) : Bool := m == 1 || m == 2 || m == 5
def isN (m : Int) : Bool := m == 3 || m == 4 || m == 5
def numBad (m n : Int) : Bool := decide (n < -20) || decide (20 < n) || (!isN m && n != 0)
def atomCheck (a : At) : Int :=
  if a.what < 1 ∨ 5 < a.what then 1
  else if termCheck a.s ≠ 0 then termCheck a.s
  else if isT a.what = true ∧ termCheck a.t ≠ 0 then termCheck a.t
  else if isT a.what = false ∧ 0 < a.t.length then 3
  else if numBad a.what a.n then 1 else 0

def atomTrue (a : At) (w : Wd) : Bool :=
  let s := termSet a.s w
  let t := if isT a.what then termSet a.t w else 0
  if a.what = 1 then lessS s t == 0
  else if a.what = 2 then s == t
  else if a.what = 3 then decide (a.n ≤ popc s)
  else if a.what = 4 then decide (popc s ≤ a.n)
  else decide (popc s ≤ popc t + a.n)

end Go.Proofs.YtpfinfneclmjkaaGreatDoor.V
