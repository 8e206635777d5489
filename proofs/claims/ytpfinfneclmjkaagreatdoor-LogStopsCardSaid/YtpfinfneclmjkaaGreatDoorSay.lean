/- The log's Say, case by case. Conditions: the log lies in a block behind the tables; what was said lies, and is right; the tables of the kinds and of the powers lie as their texts lay them. -/
import Derived.Test.YtpfinfneclmjkaaGreatDoorAtomText
import Derived.Test.YtpfinfneclmjkaaGreatDoorAlone
import Derived.Test.YtpfinfneclmjkaaGreatDoorSome
import Derived.Test.YtpfinfneclmjkaaGreatDoorAtomAny
import Derived.Test.YtpfinfneclmjkaaGreatDoorLog0
namespace Go.Proofs.YtpfinfneclmjkaaGreatDoor
open Go.RowKit V

set_option maxRecDepth 100000 in
theorem say_stopped (b : Nat) (u : Int) (vs : Value) (y : ByteArray) (s l : Int) (w : World) (h : LogAt w b u vs y s l true) (m : Int) (va vt : Value) (n : Int) (sl tl : List Int) {P : Nat → Prop} (hs : Ints P w va sl) (ht : Ints P w vt tl) (hold : Bool) :
    Calls Tryz.prog 31 #[.pointer (some ⟨b, 0, none⟩), .agg #[.int .i64 m, va, vt, .int .i64 n], .bool hold] w fun e w' => e = .returned (errV 6) ∧ Below w.heap.size w w' := by
  obtain ⟨c0, c1, c2, c3, c4, c5, hf⟩ := h.cells
  have hlt := h.lt
  obtain ⟨sa, sc, rfl⟩ := hs.form
  obtain ⟨ta, tc, rfl⟩ := ht.form
  clear hf h c0 c1 c2 c3 c4 hs ht
  go_enter Tryz.func31, Tryz.ntmps31
  go_wp2
  go_ret
  exact ⟨rfl, (Below.refl _ _).alloc (Nat.le_refl _) _⟩

set_option maxRecDepth 100000 in
theorem say_bad (b : Nat) (u : Int) (vs : Value) (y : ByteArray) (s l : Int) (w : World) (h : LogAt w b u vs y s l false) (a : At) (va vt : Value) {P : Nat → Prop} (hs : Ints P w va a.s) (ht : Ints P w vt a.t) (hk : Kinds w) (hold : Bool) (hc : atomCheck a ≠ 0) :
    Calls Tryz.prog 31 #[.pointer (some ⟨b, 0, none⟩), .agg #[.int .i64 a.what, va, vt, .int .i64 a.n], .bool hold] w fun e w' => e = .returned (errV (atomCheck a)) ∧ Below w.heap.size w w' := by
  obtain ⟨c0, c1, c2, c3, c4, c5, hf⟩ := h.cells
  have hlt := h.lt
  have HC := Lib.hid (fun o => atomCheck_any va vt a.what a.s a.t a.n (w.alloc o) (hs.alloc o) (ht.alloc o) (hk.keep ((Below.refl _ _).alloc (Nat.le_refl _) _)))
  obtain ⟨sa, sc, rfl⟩ := hs.form
  obtain ⟨ta, tc, rfl⟩ := ht.form
  have HE := Lib.hid (errV_ne hc)
  clear hf h c0 c1 c2 c3 c4 hs ht hc hk
  go_enter Tryz.func31, Tryz.ntmps31
  go_wp2_with fail
  refine (HC.out _).mono ?_
  rw [HE.out]
  rintro e w1 ⟨rfl, hb1⟩
  have HB := Lib.hid (((Below.refl w.heap.size w).alloc (Nat.le_refl _) _).trans (hb1.mono (by simp)))
  clear hb1
  go_wp2
  go_ret
  exact ⟨HE.out.symm ▸ rfl, HB.out⟩

set_option maxRecDepth 100000 in
theorem say_full (b : Nat) (u : Int) (ao : Option Addr) (len cap : Nat) (y : ByteArray) (s l : Int) (w : World) (h : LogAt w b u (.slice ao len cap) y s l false) (a : At) (va vt : Value) {P : Nat → Prop} (hs : Ints P w va a.s) (ht : Ints P w vt a.t) (hk : Kinds w) (hold : Bool) (hc : atomCheck a = 0) (h6 : 6 ≤ len) :
    Calls Tryz.prog 31 #[.pointer (some ⟨b, 0, none⟩), .agg #[.int .i64 a.what, va, vt, .int .i64 a.n], .bool hold] w fun e w' => e = .returned (errV 4) ∧ Below w.heap.size w w' := by
  obtain ⟨c0, c1, c2, c3, c4, c5, hf⟩ := h.cells
  have hlt := h.lt
  have HC := Lib.hid (fun o => atomCheck_any va vt a.what a.s a.t a.n (w.alloc o) (hs.alloc o) (ht.alloc o) (hk.keep ((Below.refl _ _).alloc (Nat.le_refl _) _)))
  obtain ⟨sa, sc, rfl⟩ := hs.form
  obtain ⟨ta, tc, rfl⟩ := ht.form
  have HE := Lib.hid (show errV (atomCheck a) = .nilIface by rw [hc]; rfl)
  have h6' : (6 : Int) ≤ (len : Int) := by omega
  clear hf h c0 c2 c3 c4 hs ht hc hk
  go_enter Tryz.func31, Tryz.ntmps31
  go_wp2_with fail
  refine (HC.out _).mono ?_
  rw [HE.out]
  rintro e w1 ⟨rfl, hb1⟩
  have d1 : w1.cell? ⟨b, 1, none⟩ = some (.slice ao len cap) := (hb1.cell (p := ⟨b, 1, none⟩) (by simp; omega)).trans ((World.cell?_alloc_past _ _ _ (by simpa using hlt)).trans c1)
  have HB := Lib.hid (((Below.refl w.heap.size w).alloc (Nat.le_refl _) _).trans (hb1.mono (by simp)))
  clear hb1
  go_wp2
  go_ret
  exact ⟨rfl, HB.out⟩
end Go.Proofs.YtpfinfneclmjkaaGreatDoor
