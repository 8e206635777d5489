/- Plain: formulas of one atom, that holds or does not. No condition. -/
import Derived.Test.YtpfinfneclmjkaaGreatDoorPlain6
namespace Go.Proofs.YtpfinfneclmjkaaGreatDoor.V

def aloneF (a : At) (h : Bool) : Fm := ⟨[a], if h then [0] else [0, 12]⟩
theorem aloneF_check {a : At} (h : atomCheck a = 0) (b : Bool) : formCheck (aloneF a b) = 0 := by
  have hf : atomsFault [a] = 0 := by simp [atomsFault, h]
  cases b
  · have h1 : ([0, 12] : List Int).any (codeBad 1) = false := by decide
    have h2 : formMany 0 [0, 12] = some 1 := by decide
    simp [formCheck, aloneF, hf, h1, h2]
  · have h1 : ([0] : List Int).any (codeBad 1) = false := by decide
    have h2 : formMany 0 [0] = some 1 := by decide
    simp [formCheck, aloneF, hf, h1, h2]
theorem aloneF_true (a : At) (b : Bool) (W : Wd) : formTrue (aloneF a b) W = (atomTrue a W == b) := by
  cases b <;> simp [formTrue, aloneF, fStep, fVal]
end Go.Proofs.YtpfinfneclmjkaaGreatDoor.V
