/- Package term: a world, and the set that a term is. -/
import Derived.Test.YtpfinfneclmjkaaGreatDoorTerm
namespace Go.Proofs.YtpfinfneclmjkaaGreatDoor
open Go.RowKit V

theorem wdCheck_any (u a b c : Int) (w : World) :
    Calls Tryz.prog 112 #[.agg #[.int .i64 u, .int .i64 a, .int .i64 b, .int .i64 c]] w fun e w' => e = .returned (errV (wdCheck ⟨u, a, b, c⟩)) ∧ Below w.heap.size w w' := by
  have i0 : ∀ w, (Instr.index 32 (.agg #[.int .i64 a, .int .i64 b, .int .i64 c]) (.int .i64 0)).run Tryz.prog w = .ok (.int .i64 a) w := fun _ => by kernel_rfl
  have i1 : ∀ w, (Instr.index 32 (.agg #[.int .i64 a, .int .i64 b, .int .i64 c]) (.int .i64 1)).run Tryz.prog w = .ok (.int .i64 b) w := fun _ => by kernel_rfl
  have i2 : ∀ w, (Instr.index 32 (.agg #[.int .i64 a, .int .i64 b, .int .i64 c]) (.int .i64 2)).run Tryz.prog w = .ok (.int .i64 c) w := fun _ => by kernel_rfl
  cases hu : things u
  · have HX := Lib.hid (show wdCheck ⟨u, a, b, c⟩ = 1 by
      unfold wdCheck; rw [if_neg]; intro h; have h2 := setCheck_ok h.1; simp only [things, Bool.and_eq_false_iff, decide_eq_false_iff_not] at hu; simp only at h2; omega)
    go_enter Tryz.func112, Tryz.ntmps112
    go_wp2_with (go_at_call 89; refine (things_any _ _).mono ?_; rintro e w' ⟨rfl, rfl⟩)
    go_ret
    exact ⟨by rw [HX.out]; rfl, (Below.refl _ _).alloc (Nat.le_refl _) _⟩
  · go_enter Tryz.func112, Tryz.ntmps112
    go_wp2_with (go_at_call 89; refine (things_any _ _).mono ?_; rintro e w' ⟨rfl, rfl⟩)
    go_loop [13] (fun i => i = .int .i64 0 ∨ (i = .int .i64 1 ∧ setCheck u a = 0) ∨ (i = .int .i64 2 ∧ setCheck u a = 0 ∧ setCheck u b = 0) ∨ (i = .int .i64 3 ∧ setCheck u a = 0 ∧ setCheck u b = 0 ∧ setCheck u c = 0)) (fun i => 3 - (intOf i).toNat)
    case atStart => exact .inl rfl
    case round =>
      have HB := (Below.refl w.heap.size w).alloc (Nat.le_refl _) (Obj.cells #[Value.int IntKind.i64 u, Value.int IntKind.i64 a, Value.int IntKind.i64 b, Value.int IntKind.i64 c] 34)
      rcases hrel with rfl | ⟨rfl, ha⟩ | ⟨rfl, ha, hb⟩ | ⟨rfl, ha, hb, hc⟩
      · rcases setCheck_01 u a with h | h
        · have H := Lib.hid h; clear h
          go_wp2_with fail
          refine (setCheck_any _ _ _).mono ?_
          rw [H.out]
          rintro e w' ⟨rfl, rfl⟩
          rw [errV_zero]
          go_wp2
          go_round
          case rel => exact .inr (.inl ⟨rfl, H.out⟩)
          case measure => simp [intOf]
        · have HX := Lib.hid (show wdCheck ⟨u, a, b, c⟩ = 1 by simp [wdCheck, h])
          have H := Lib.hid h; clear h
          go_wp2_with fail
          refine (setCheck_any _ _ _).mono ?_
          rw [H.out]
          rintro e w' ⟨rfl, rfl⟩
          rw [errV_ne (by decide)]
          go_wp2
          go_ret
          exact ⟨by rw [HX.out]; rfl, HB⟩
      · have HA := Lib.hid ha; clear ha
        rcases setCheck_01 u b with h | h
        · have H := Lib.hid h; clear h
          go_wp2_with fail
          refine (setCheck_any _ _ _).mono ?_
          rw [H.out]
          rintro e w' ⟨rfl, rfl⟩
          rw [errV_zero]
          go_wp2
          go_round
          case rel => exact .inr (.inr (.inl ⟨rfl, HA.out, H.out⟩))
          case measure => simp [intOf]
        · have HX := Lib.hid (show wdCheck ⟨u, a, b, c⟩ = 1 by simp [wdCheck, h])
          have H := Lib.hid h; clear h
          go_wp2_with fail
          refine (setCheck_any _ _ _).mono ?_
          rw [H.out]
          rintro e w' ⟨rfl, rfl⟩
          rw [errV_ne (by decide)]
          go_wp2
          go_ret
          exact ⟨by rw [HX.out]; rfl, HB⟩
      · have HA := Lib.hid ha; clear ha
        have HB' := Lib.hid hb; clear hb
        rcases setCheck_01 u c with h | h
        · have H := Lib.hid h; clear h
          go_wp2_with fail
          refine (setCheck_any _ _ _).mono ?_
          rw [H.out]
          rintro e w' ⟨rfl, rfl⟩
          rw [errV_zero]
          go_wp2
          go_round
          case rel => exact .inr (.inr (.inr ⟨rfl, HA.out, HB'.out, H.out⟩))
          case measure => simp [intOf]
        · have HX := Lib.hid (show wdCheck ⟨u, a, b, c⟩ = 1 by simp [wdCheck, h])
          have H := Lib.hid h; clear h
          go_wp2_with fail
          refine (setCheck_any _ _ _).mono ?_
          rw [H.out]
          rintro e w' ⟨rfl, rfl⟩
          rw [errV_ne (by decide)]
          go_wp2
          go_ret
          exact ⟨by rw [HX.out]; rfl, HB⟩
      · have HX := Lib.hid (show wdCheck ⟨u, a, b, c⟩ = 0 by simp [wdCheck, ha, hb, hc])
        clear ha hb hc
        go_wp2
        go_ret
        exact ⟨by rw [HX.out]; rfl, HB⟩
end Go.Proofs.YtpfinfneclmjkaaGreatDoor
