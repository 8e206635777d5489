/- Plain: what is said and denied excludes each other. No condition. -/
import Derived.Test.YtpfinfneclmjkaaDoorSome
import Derived.Test.YtpfinfneclmjkaaDoorAloneP
namespace Go.Proofs.YtpfinfneclmjkaaDoor
open Go.RowKit V

theorem allTrue_nil (W : Wd) : allTrue [] W = true := rfl
theorem allTrue_cons (f : Fm) (l : List Fm) (W : Wd) : allTrue (f :: l) W = (formTrue f W && allTrue l W) := by
  unfold allTrue; rw [List.any_cons]; cases formTrue f W <;> simp
theorem allC_ne {u : Nat} (hu : u ≤ 6) : allC u ≠ [] := by
  have := (chain_all ⟨u, by omega⟩).2
  intro h
  rw [h] at this
  cases this
theorem some_nil {u : Int} (h0 : 0 ≤ u) (h6 : u ≤ 6) : someW [] u = true := by
  unfold someW
  have := allC_ne (u := u.toNat) (by omega)
  cases h : allC u.toNat with
  | nil => exact absurd h this
  | cons x r => rw [List.any_cons, allTrue_nil]; rfl
theorem some_clash (a : At) (u : Int) : someW ([aloneF a true] ++ [aloneF a false]) u = false := by
  unfold someW
  rw [List.any_eq_false]
  intro n _
  rw [List.cons_append, List.nil_append, allTrue_cons, allTrue_cons, allTrue_nil, aloneF_true, aloneF_true]
  cases atomTrue a (made n) <;> simp
theorem some_twice (a : At) (u : Int) : someW ([aloneF a true] ++ [aloneF a true]) u = someW [aloneF a true] u := by
  unfold someW
  congr 1
  funext n
  rw [List.cons_append, List.nil_append, allTrue_cons, allTrue_cons, allTrue_nil]
  cases formTrue (aloneF a true) (made n) <;> simp
end Go.Proofs.YtpfinfneclmjkaaDoor
