/- Package atom: whether one holds. Conditions: the atom and the world are right; the table of the kinds lies as its text lays it. -/
import Derived.Test.YtpfinfneclmjkaaGreatDoorAtom
import Derived.Test.YtpfinfneclmjkaaGreatDoorPlain2
namespace Go.Proofs.YtpfinfneclmjkaaGreatDoor
open Go.RowKit V

theorem many_quiet (n : Int) (h0 : 0 ≤ n) (h1 : n < 64) (w : World) : Calls Tryz.prog 157 #[.int .i64 n] w fun e w' => e = .returned (.int .i64 (popc n)) ∧ w' = w :=
  (many_any n h0 h1 w).mono fun _ _ ⟨h1, h2⟩ => ⟨h1, h2.symm⟩

set_option maxHeartbeats 4000000 in
set_option maxRecDepth 100000 in
theorem atomTrue_1 {P : Nat → Prop} (vs vt : Value) (s t : List Int) (n : Int) (u a b c : Int) (w : World) (hs : Ints P w vs s) (ht : Ints P w vt t) (hk : Kinds w) (hA : AtOk ⟨1, s, t, n⟩) (hW : WdOk ⟨u, a, b, c⟩) :
    Calls Tryz.prog 144 #[.agg #[.int .i64 1, vs, vt, .int .i64 n], .agg #[.int .i64 u, .int .i64 a, .int .i64 b, .int .i64 c]] w fun e w' => e = .returned (.bool (atomTrue ⟨1, s, t, n⟩ ⟨u, a, b, c⟩)) ∧ Below w.heap.size w w' := by
  have hg := hk.size
  have k1 : w.cell? ⟨0, 1 * 3 + 1, none⟩ = some (.bool true) := (hk 1 (by omega)).2.1
  have HS0 := Lib.hid hA.s0
  have HT0 := Lib.hid (hA.t0 rfl)
  have hn0 : -20 ≤ n := hA.n0
  have hn1 : n ≤ 20 := hA.n1
  have hbs := termSet_bd hW s
  have hbt := termSet_bd hW t
  have hps := popc_bd (termSet s ⟨u, a, b, c⟩)
  have hpt := popc_bd (termSet t ⟨u, a, b, c⟩)
  have HBB := Lib.hid (bits_i64 hbs.1 hbs.2 hbt.1 hbt.2)
  have HX := Lib.hid (show atomTrue ⟨1, s, t, n⟩ ⟨u, a, b, c⟩ = (lessS (termSet s ⟨u, a, b, c⟩) (termSet t ⟨u, a, b, c⟩) == 0) by simp [atomTrue, isT])
  have HI : ∀ o o', Hid (Ints P ((w.alloc o).alloc o') vs s) := fun o o' => (hs.alloc o).alloc o'
  have HJ : ∀ o o', Hid (Ints P ((w.alloc o).alloc o') vt t) := fun o o' => (ht.alloc o).alloc o'
  clear hs ht hk
  go_enter Tryz.func144, Tryz.ntmps144
  go_wp2_with fail
  refine (termSet_any _ _ _ _ _ _ _ (HI _ _).out HS0.out hW).mono ?_
  rintro e w1 ⟨rfl, hb1⟩
  have HJ1 := Lib.hid ((HJ _ _).out.below hb1)
  obtain ⟨hc1, hf1⟩ := bcell hb1
  have hz1 := hb1.size
  have HB1 := Lib.hid hb1
  clear hb1
  simp only [World.size_alloc] at hc1 hf1 hz1
  have hz1a : w.heap.size < w1.heap.size := by omega
  have hz1b : w.heap.size + 1 < w1.heap.size := by omega
  have hz1c : 0 < w1.heap.size := by omega
  go_wp2_with fail
  refine (termSet_any _ _ _ _ _ _ _ HJ1.out HT0.out hW).mono ?_
  rintro e w2 ⟨rfl, hb2⟩
  obtain ⟨hc2, hf2⟩ := bcell hb2
  have hz2 := hb2.size
  have HB2 := Lib.hid hb2
  clear hb2
  go_wp2
  go_ret
  exact ⟨ret_bool (by rw [HX.out, HBB.out.2.2]), ((((Below.refl w.heap.size w).alloc (Nat.le_refl _) _).alloc (by simp) _).trans (HB1.out.mono (by simp; omega))).trans (HB2.out.mono (by omega))⟩

set_option maxHeartbeats 4000000 in
set_option maxRecDepth 100000 in
theorem atomTrue_2 {P : Nat → Prop} (vs vt : Value) (s t : List Int) (n : Int) (u a b c : Int) (w : World) (hs : Ints P w vs s) (ht : Ints P w vt t) (hk : Kinds w) (hA : AtOk ⟨2, s, t, n⟩) (hW : WdOk ⟨u, a, b, c⟩) :
    Calls Tryz.prog 144 #[.agg #[.int .i64 2, vs, vt, .int .i64 n], .agg #[.int .i64 u, .int .i64 a, .int .i64 b, .int .i64 c]] w fun e w' => e = .returned (.bool (atomTrue ⟨2, s, t, n⟩ ⟨u, a, b, c⟩)) ∧ Below w.heap.size w w' := by
  have hg := hk.size
  have k1 : w.cell? ⟨0, 2 * 3 + 1, none⟩ = some (.bool true) := (hk 2 (by omega)).2.1
  have HS0 := Lib.hid hA.s0
  have HT0 := Lib.hid (hA.t0 rfl)
  have hn0 : -20 ≤ n := hA.n0
  have hn1 : n ≤ 20 := hA.n1
  have hbs := termSet_bd hW s
  have hbt := termSet_bd hW t
  have hps := popc_bd (termSet s ⟨u, a, b, c⟩)
  have hpt := popc_bd (termSet t ⟨u, a, b, c⟩)
  have HBB := Lib.hid (bits_i64 hbs.1 hbs.2 hbt.1 hbt.2)
  have HX := Lib.hid (show atomTrue ⟨2, s, t, n⟩ ⟨u, a, b, c⟩ = (termSet s ⟨u, a, b, c⟩ == termSet t ⟨u, a, b, c⟩) by simp [atomTrue, isT])
  have HI : ∀ o o', Hid (Ints P ((w.alloc o).alloc o') vs s) := fun o o' => (hs.alloc o).alloc o'
  have HJ : ∀ o o', Hid (Ints P ((w.alloc o).alloc o') vt t) := fun o o' => (ht.alloc o).alloc o'
  clear hs ht hk
  go_enter Tryz.func144, Tryz.ntmps144
  go_wp2_with fail
  refine (termSet_any _ _ _ _ _ _ _ (HI _ _).out HS0.out hW).mono ?_
  rintro e w1 ⟨rfl, hb1⟩
  have HJ1 := Lib.hid ((HJ _ _).out.below hb1)
  obtain ⟨hc1, hf1⟩ := bcell hb1
  have hz1 := hb1.size
  have HB1 := Lib.hid hb1
  clear hb1
  simp only [World.size_alloc] at hc1 hf1 hz1
  have hz1a : w.heap.size < w1.heap.size := by omega
  have hz1b : w.heap.size + 1 < w1.heap.size := by omega
  have hz1c : 0 < w1.heap.size := by omega
  go_wp2_with fail
  refine (termSet_any _ _ _ _ _ _ _ HJ1.out HT0.out hW).mono ?_
  rintro e w2 ⟨rfl, hb2⟩
  obtain ⟨hc2, hf2⟩ := bcell hb2
  have hz2 := hb2.size
  have HB2 := Lib.hid hb2
  clear hb2
  go_wp2
  go_ret
  exact ⟨ret_bool (by rw [HX.out]), ((((Below.refl w.heap.size w).alloc (Nat.le_refl _) _).alloc (by simp) _).trans (HB1.out.mono (by simp; omega))).trans (HB2.out.mono (by omega))⟩

set_option maxHeartbeats 4000000 in
set_option maxRecDepth 100000 in
theorem atomTrue_3 {P : Nat → Prop} (vs vt : Value) (s t : List Int) (n : Int) (u a b c : Int) (w : World) (hs : Ints P w vs s) (ht : Ints P w vt t) (hk : Kinds w) (hA : AtOk ⟨3, s, t, n⟩) (hW : WdOk ⟨u, a, b, c⟩) :
    Calls Tryz.prog 144 #[.agg #[.int .i64 3, vs, vt, .int .i64 n], .agg #[.int .i64 u, .int .i64 a, .int .i64 b, .int .i64 c]] w fun e w' => e = .returned (.bool (atomTrue ⟨3, s, t, n⟩ ⟨u, a, b, c⟩)) ∧ Below w.heap.size w w' := by
  have hg := hk.size
  have k1 : w.cell? ⟨0, 3 * 3 + 1, none⟩ = some (.bool false) := (hk 3 (by omega)).2.1
  have HS0 := Lib.hid hA.s0
  have hn0 : -20 ≤ n := hA.n0
  have hn1 : n ≤ 20 := hA.n1
  have hbs := termSet_bd hW s
  have hbt := termSet_bd hW t
  have hps := popc_bd (termSet s ⟨u, a, b, c⟩)
  have hpt := popc_bd (termSet t ⟨u, a, b, c⟩)
  have HBB := Lib.hid (bits_i64 hbs.1 hbs.2 hbt.1 hbt.2)
  have HX := Lib.hid (show atomTrue ⟨3, s, t, n⟩ ⟨u, a, b, c⟩ = decide (n ≤ popc (termSet s ⟨u, a, b, c⟩)) by simp [atomTrue, isT])
  have HI : ∀ o o', Hid (Ints P ((w.alloc o).alloc o') vs s) := fun o o' => (hs.alloc o).alloc o'
  clear hs ht hk
  go_enter Tryz.func144, Tryz.ntmps144
  go_wp2_with fail
  refine (termSet_any _ _ _ _ _ _ _ (HI _ _).out HS0.out hW).mono ?_
  rintro e w1 ⟨rfl, hb1⟩
  obtain ⟨hc1, hf1⟩ := bcell hb1
  have hz1 := hb1.size
  have HB1 := Lib.hid hb1
  clear hb1
  simp only [World.size_alloc] at hc1 hf1 hz1
  have hz1a : w.heap.size < w1.heap.size := by omega
  have hz1b : w.heap.size + 1 < w1.heap.size := by omega
  have hz1c : 0 < w1.heap.size := by omega
  go_wp2_with fail
  go_quiet ((go_at_call 157; exact Calls.quiet_of_same (many_quiet _ (by omega) (by omega) _)))
  go_wp2
  go_ret
  exact ⟨ret_bool (by rw [HX.out]), below_drewN ((((Below.refl w.heap.size w).alloc (Nat.le_refl _) _).alloc (by simp) _).trans (HB1.out.mono (by simp; omega))) _⟩

set_option maxHeartbeats 4000000 in
set_option maxRecDepth 100000 in
theorem atomTrue_4 {P : Nat → Prop} (vs vt : Value) (s t : List Int) (n : Int) (u a b c : Int) (w : World) (hs : Ints P w vs s) (ht : Ints P w vt t) (hk : Kinds w) (hA : AtOk ⟨4, s, t, n⟩) (hW : WdOk ⟨u, a, b, c⟩) :
    Calls Tryz.prog 144 #[.agg #[.int .i64 4, vs, vt, .int .i64 n], .agg #[.int .i64 u, .int .i64 a, .int .i64 b, .int .i64 c]] w fun e w' => e = .returned (.bool (atomTrue ⟨4, s, t, n⟩ ⟨u, a, b, c⟩)) ∧ Below w.heap.size w w' := by
  have hg := hk.size
  have k1 : w.cell? ⟨0, 4 * 3 + 1, none⟩ = some (.bool false) := (hk 4 (by omega)).2.1
  have HS0 := Lib.hid hA.s0
  have hn0 : -20 ≤ n := hA.n0
  have hn1 : n ≤ 20 := hA.n1
  have hbs := termSet_bd hW s
  have hbt := termSet_bd hW t
  have hps := popc_bd (termSet s ⟨u, a, b, c⟩)
  have hpt := popc_bd (termSet t ⟨u, a, b, c⟩)
  have HBB := Lib.hid (bits_i64 hbs.1 hbs.2 hbt.1 hbt.2)
  have HX := Lib.hid (show atomTrue ⟨4, s, t, n⟩ ⟨u, a, b, c⟩ = decide (popc (termSet s ⟨u, a, b, c⟩) ≤ n) by simp [atomTrue, isT])
  have HI : ∀ o o', Hid (Ints P ((w.alloc o).alloc o') vs s) := fun o o' => (hs.alloc o).alloc o'
  clear hs ht hk
  go_enter Tryz.func144, Tryz.ntmps144
  go_wp2_with fail
  refine (termSet_any _ _ _ _ _ _ _ (HI _ _).out HS0.out hW).mono ?_
  rintro e w1 ⟨rfl, hb1⟩
  obtain ⟨hc1, hf1⟩ := bcell hb1
  have hz1 := hb1.size
  have HB1 := Lib.hid hb1
  clear hb1
  simp only [World.size_alloc] at hc1 hf1 hz1
  have hz1a : w.heap.size < w1.heap.size := by omega
  have hz1b : w.heap.size + 1 < w1.heap.size := by omega
  have hz1c : 0 < w1.heap.size := by omega
  go_wp2_with fail
  go_quiet ((go_at_call 157; exact Calls.quiet_of_same (many_quiet _ (by omega) (by omega) _)))
  go_wp2
  go_ret
  exact ⟨ret_bool (by rw [HX.out]), below_drewN ((((Below.refl w.heap.size w).alloc (Nat.le_refl _) _).alloc (by simp) _).trans (HB1.out.mono (by simp; omega))) _⟩

set_option maxHeartbeats 4000000 in
set_option maxRecDepth 100000 in
theorem atomTrue_5 {P : Nat → Prop} (vs vt : Value) (s t : List Int) (n : Int) (u a b c : Int) (w : World) (hs : Ints P w vs s) (ht : Ints P w vt t) (hk : Kinds w) (hA : AtOk ⟨5, s, t, n⟩) (hW : WdOk ⟨u, a, b, c⟩) :
    Calls Tryz.prog 144 #[.agg #[.int .i64 5, vs, vt, .int .i64 n], .agg #[.int .i64 u, .int .i64 a, .int .i64 b, .int .i64 c]] w fun e w' => e = .returned (.bool (atomTrue ⟨5, s, t, n⟩ ⟨u, a, b, c⟩)) ∧ Below w.heap.size w w' := by
  have hg := hk.size
  have k1 : w.cell? ⟨0, 5 * 3 + 1, none⟩ = some (.bool true) := (hk 5 (by omega)).2.1
  have HS0 := Lib.hid hA.s0
  have HT0 := Lib.hid (hA.t0 rfl)
  have hn0 : -20 ≤ n := hA.n0
  have hn1 : n ≤ 20 := hA.n1
  have hbs := termSet_bd hW s
  have hbt := termSet_bd hW t
  have hps := popc_bd (termSet s ⟨u, a, b, c⟩)
  have hpt := popc_bd (termSet t ⟨u, a, b, c⟩)
  have HBB := Lib.hid (bits_i64 hbs.1 hbs.2 hbt.1 hbt.2)
  have HX := Lib.hid (show atomTrue ⟨5, s, t, n⟩ ⟨u, a, b, c⟩ = decide (popc (termSet s ⟨u, a, b, c⟩) ≤ popc (termSet t ⟨u, a, b, c⟩) + n) by simp [atomTrue, isT])
  have HI : ∀ o o', Hid (Ints P ((w.alloc o).alloc o') vs s) := fun o o' => (hs.alloc o).alloc o'
  have HJ : ∀ o o', Hid (Ints P ((w.alloc o).alloc o') vt t) := fun o o' => (ht.alloc o).alloc o'
  clear hs ht hk
  go_enter Tryz.func144, Tryz.ntmps144
  go_wp2_with fail
  refine (termSet_any _ _ _ _ _ _ _ (HI _ _).out HS0.out hW).mono ?_
  rintro e w1 ⟨rfl, hb1⟩
  have HJ1 := Lib.hid ((HJ _ _).out.below hb1)
  obtain ⟨hc1, hf1⟩ := bcell hb1
  have hz1 := hb1.size
  have HB1 := Lib.hid hb1
  clear hb1
  simp only [World.size_alloc] at hc1 hf1 hz1
  have hz1a : w.heap.size < w1.heap.size := by omega
  have hz1b : w.heap.size + 1 < w1.heap.size := by omega
  have hz1c : 0 < w1.heap.size := by omega
  go_wp2_with fail
  refine (termSet_any _ _ _ _ _ _ _ HJ1.out HT0.out hW).mono ?_
  rintro e w2 ⟨rfl, hb2⟩
  obtain ⟨hc2, hf2⟩ := bcell hb2
  have hz2 := hb2.size
  have HB2 := Lib.hid hb2
  clear hb2
  go_wp2_with fail
  go_quiet ((go_at_call 157; exact Calls.quiet_of_same (many_quiet _ (by omega) (by omega) _)))
  go_wp2
  go_ret
  exact ⟨ret_bool (by rw [HX.out]), below_drewN (((((Below.refl w.heap.size w).alloc (Nat.le_refl _) _).alloc (by simp) _).trans (HB1.out.mono (by simp; omega))).trans (HB2.out.mono (by omega))) _⟩

theorem atomTrue_any {P : Nat → Prop} (vs vt : Value) (A : At) (u a b c : Int) (w : World) (hs : Ints P w vs A.s) (ht : Ints P w vt A.t) (hk : Kinds w) (hA : atomCheck A = 0) (hW : WdOk ⟨u, a, b, c⟩) :
    Calls Tryz.prog 144 #[.agg #[.int .i64 A.what, vs, vt, .int .i64 A.n], .agg #[.int .i64 u, .int .i64 a, .int .i64 b, .int .i64 c]] w fun e w' => e = .returned (.bool (atomTrue A ⟨u, a, b, c⟩)) ∧ Below w.heap.size w w' := by
  obtain ⟨m, s, t, n⟩ := A
  have hA' := atomCheck_ok hA
  have h1 := hA'.w1
  have h5 := hA'.w5
  simp only at h1 h5 hs ht
  have : m = 1 ∨ m = 2 ∨ m = 3 ∨ m = 4 ∨ m = 5 := by omega
  rcases this with rfl | rfl | rfl | rfl | rfl
  · exact atomTrue_1 vs vt s t n u a b c w hs ht hk hA' hW
  · exact atomTrue_2 vs vt s t n u a b c w hs ht hk hA' hW
  · exact atomTrue_3 vs vt s t n u a b c w hs ht hk hA' hW
  · exact atomTrue_4 vs vt s t n u a b c w hs ht hk hA' hW
  · exact atomTrue_5 vs vt s t n u a b c w hs ht hk hA' hW
end Go.Proofs.YtpfinfneclmjkaaGreatDoor
