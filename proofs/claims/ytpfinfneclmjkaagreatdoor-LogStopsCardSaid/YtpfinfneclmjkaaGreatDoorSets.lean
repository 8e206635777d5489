/- Package sets: what its functions return. Conditions: sets are right. -/
import Derived.Test.YtpfinfneclmjkaaGreatDoorBase
namespace Go.Proofs.YtpfinfneclmjkaaGreatDoor
open Go.RowKit V

theorem things_any (u : Int) (w : World) : Calls Tryz.prog 89 #[.int .i64 u] w fun e w' => e = .returned (.bool (things u)) ∧ w = w' := by
  unfold things
  by_cases h1 : 0 ≤ u
  · go_enter Tryz.func89, Tryz.ntmps89
    go_wp2
    go_ret
    exact ⟨by simp [h1], rfl⟩
  · have h1' : decide (0 ≤ u) = false := by simpa using h1
    go_enter Tryz.func89, Tryz.ntmps89
    go_wp2
    go_ret
    exact ⟨by simp, rfl⟩

theorem all_any (u : Int) (h0 : 0 ≤ u) (h6 : u ≤ 6) (w : World) : Calls Tryz.prog 185 #[.int .i64 u] w fun e w' => e = .returned (.int .i64 (pow2 u - 1)) ∧ w = w' := by
  go_enter Tryz.func185, Tryz.ntmps185
  go_wp2
  go_ret
  refine ⟨ret_int ?_, rfl⟩
  have := pow2_bd h0 h6
  rw [this.2.2]
  unfold wrap64
  omega

theorem right_yes (u s : Int) (h0 : 0 ≤ u) (h6 : u ≤ 6) (w : World) : Calls Tryz.prog 217 #[.int .i64 u, .int .i64 s] w fun e w' => e = .returned (.bool (decide (0 ≤ s ∧ s ≤ pow2 u - 1))) ∧ w = w' := by
  by_cases h1 : 0 ≤ s
  · go_enter Tryz.func217, Tryz.ntmps217
    go_wp2_with (go_at_call 185; refine (all_any _ (by omega) (by omega) _).mono ?_; rintro e w' ⟨rfl, rfl⟩)
    go_ret
    exact ⟨ret_bool (by simp [h1]), rfl⟩
  · have h1' : decide (0 ≤ s) = false := by simpa using h1
    go_enter Tryz.func217, Tryz.ntmps217
    go_wp2
    go_ret
    exact ⟨ret_bool (by simp [h1]), rfl⟩

theorem setCheck_any (u s : Int) (w : World) : Calls Tryz.prog 175 #[.int .i64 u, .int .i64 s] w fun e w' => e = .returned (errV (setCheck u s)) ∧ w = w' := by
  by_cases h0 : 0 ≤ u ∧ u ≤ 6
  · obtain ⟨h0, h6⟩ := h0
    have ht : things u = true := by simp [things, h0, h6]
    by_cases hs : 0 ≤ s ∧ s ≤ pow2 u - 1
    · have hd : decide (0 ≤ s ∧ s ≤ pow2 u - 1) = true := by simpa using hs
      have hc : Hid (setCheck u s = 0) := Lib.hid (by simp [setCheck, h0, h6, hs])
      go_enter Tryz.func175, Tryz.ntmps175
      go_wp2_with (first | (go_at_call 89; refine (things_any _ _).mono ?_; rintro e w' ⟨rfl, rfl⟩) | (go_at_call 217; refine (right_yes _ _ (by omega) (by omega) _).mono ?_; rintro e w' ⟨rfl, rfl⟩))
      go_ret
      exact ⟨by rw [hc.out]; rfl, rfl⟩
    · have hd : decide (0 ≤ s ∧ s ≤ pow2 u - 1) = false := by simpa using hs
      have hc : Hid (setCheck u s = 1) := Lib.hid (by unfold setCheck; rw [if_neg]; intro h; exact hs h.2.2)
      go_enter Tryz.func175, Tryz.ntmps175
      go_wp2_with (first | (go_at_call 89; refine (things_any _ _).mono ?_; rintro e w' ⟨rfl, rfl⟩) | (go_at_call 217; refine (right_yes _ _ (by omega) (by omega) _).mono ?_; rintro e w' ⟨rfl, rfl⟩))
      go_ret
      exact ⟨by rw [hc.out]; rfl, rfl⟩
  · have ht : things u = false := by simp only [things, Bool.and_eq_false_iff, decide_eq_false_iff_not]; omega
    have hc : Hid (setCheck u s = 1) := Lib.hid (by unfold setCheck; rw [if_neg]; intro h; exact h0 ⟨h.1, h.2.1⟩)
    clear h0
    go_enter Tryz.func175, Tryz.ntmps175
    go_wp2_with (go_at_call 89; refine (things_any _ _).mono ?_; rintro e w' ⟨rfl, rfl⟩)
    go_ret
    exact ⟨by rw [hc.out]; rfl, rfl⟩

theorem of_any (what u a b : Int) (h0 : 0 ≤ u) (h6 : u ≤ 6) (ha : 0 ≤ a) (ha' : a < 64) (hb : 0 ≤ b) (hb' : b < 64) (w : World) :
    Calls Tryz.prog 186 #[.int .i64 what, .int .i64 u, .int .i64 a, .int .i64 b] w fun e w' => e = .returned (.int .i64 (ofSet what u a b)) ∧ w = w' := by
  have H := Lib.hid (bits_i64 ha ha' hb hb')
  have hp := pow2_bd h0 h6
  have H2 := Lib.hid (bits_i64 (a := pow2 u - 1) (b := a) (by omega) (by omega) ha ha')
  clear hp
  by_cases h5 : what = 5
  · subst h5
    go_enter Tryz.func186, Tryz.ntmps186
    go_wp2
    go_ret
    exact ⟨ret_int (by simp [ofSet, H.out.1]), rfl⟩
  by_cases h6' : what = 6
  · subst h6'
    go_enter Tryz.func186, Tryz.ntmps186
    go_wp2
    go_ret
    exact ⟨ret_int (by simp [ofSet, H.out.2.1]), rfl⟩
  by_cases h7 : what = 7
  · subst h7
    go_enter Tryz.func186, Tryz.ntmps186
    go_wp2
    go_ret
    exact ⟨ret_int (by simp [ofSet, H.out.2.2]), rfl⟩
  have e5 : (what == 5) = false := by simpa using h5
  have e6 : (what == 6) = false := by simpa using h6'
  have e7 : (what == 7) = false := by simpa using h7
  have HO : Hid (ofSet what u a b = lessS (pow2 u - 1) a) := Lib.hid (by simp [ofSet, h5, h6', h7])
  clear h5 h6' h7
  go_enter Tryz.func186, Tryz.ntmps186
  go_wp2_with (go_at_call 185; refine (all_any _ (by omega) (by omega) _).mono ?_; rintro e w' ⟨rfl, rfl⟩)
  go_ret
  exact ⟨ret_int (by rw [HO.out]; exact H2.out.2.2), rfl⟩

theorem ones64_any (n : Fin 64) (w : World) : Calls Tryz.prog 239 #[.int .u64 ((n.val : Nat) : Int)] w fun e w' => e = .returned (.int .i64 (popc ((n.val : Nat) : Int))) ∧ w = w' := by
  go_enter Tryz.func239, Tryz.ntmps239
  go_wp2
  go_ret
  refine ⟨ret_int ?_, rfl⟩
  revert n
  decide +kernel

theorem ones_any (n : Fin 64) (w : World) : Calls Tryz.prog 202 #[.int .u64 ((n.val : Nat) : Int)] w fun e w' => e = .returned (.int .i64 (popc ((n.val : Nat) : Int))) ∧ w = w' := by
  go_enter Tryz.func202, Tryz.ntmps202
  go_wp2_with (go_at_call 239; refine (ones64_any n _).mono ?_; rintro e w' ⟨rfl, rfl⟩)
  go_ret
  exact ⟨rfl, rfl⟩

theorem many_any (n : Int) (h0 : 0 ≤ n) (h1 : n < 64) (w : World) : Calls Tryz.prog 157 #[.int .i64 n] w fun e w' => e = .returned (.int .i64 (popc n)) ∧ w = w' := by
  obtain ⟨m, rfl⟩ := Int.eq_ofNat_of_zero_le h0
  have hu : IntKind.u64.wrap (m : Int) = (m : Int) := by rw [IntKind.wrap_u64]; omega
  go_enter Tryz.func157, Tryz.ntmps157
  go_wp2_with fail
  refine (ones_any ⟨m, by omega⟩ _).mono ?_
  rintro e w' ⟨rfl, rfl⟩
  go_wp2
  go_ret
  exact ⟨rfl, rfl⟩
end Go.Proofs.YtpfinfneclmjkaaGreatDoor
