/- Package atom: what is wrong with one. Conditions: the table of the kinds lies as its text lays it. -/
import Derived.Test.YtpfinfneclmjkaaGreatDoorTermSet
namespace Go.Proofs.YtpfinfneclmjkaaGreatDoor
open Go.RowKit V

theorem isT_kt {m : Nat} (h : m ≤ 5) : isT (m : Int) = kt m ∧ isN (m : Int) = kn m := by
  match m, h with
  | 0, _ | 1, _ | 2, _ | 3, _ | 4, _ | 5, _ => decide

theorem errV_or (c : Int) : (c = 0 ∧ errV c = .nilIface) ∨ (c ≠ 0 ∧ errV c = .iface 135 (.int .i64 c)) := by
  by_cases h : c = 0
  · exact .inl ⟨h, by rw [h]; rfl⟩
  · exact .inr ⟨h, errV_ne h⟩

set_option maxHeartbeats 4000000 in
set_option maxRecDepth 100000 in
theorem atomCheck_in {P : Nat → Prop} (vs vt : Value) (m : Nat) (s t : List Int) (n : Int) (w : World) (hm0 : 1 ≤ m) (hm5 : m ≤ 5) (hs : Ints P w vs s) (ht : Ints P w vt t) (hk : Kinds w) :
    Calls Tryz.prog 73 #[.agg #[.int .i64 (m : Int), vs, vt, .int .i64 n]] w fun e w' => e = .returned (errV (atomCheck ⟨m, s, t, n⟩)) ∧ Below w.heap.size w w' := by
  have hg := hk.size
  obtain ⟨k0, k1, k2⟩ := hk m (by omega)
  clear hk
  have HT := Lib.hid (isT_kt hm5)
  have HV := Lib.hid (show ¬ ((m : Int) < 1 ∨ 5 < (m : Int)) by omega)
  have HI : ∀ o, Hid (Ints P (w.alloc o) vs s) := fun o => hs.alloc o
  have HJ : ∀ o, Hid (Ints P (w.alloc o) vt t) := fun o => ht.alloc o
  have HJ2 : ∀ o o', Hid (Ints P ((w.alloc o).alloc o') vt t) := fun o o' => (ht.alloc o).alloc o'
  rcases errV_or (termCheck s) with ⟨hs0, hse⟩ | ⟨hs0, hse⟩
  · have HS := Lib.hid hs0
    have HSE := Lib.hid hse
    clear hs0 hse
    cases hkt : kt m
    · -- no second term
      have HK := Lib.hid hkt
      rw [hkt] at k1
      clear hkt
      obtain ⟨ao, cap, rfl⟩ := ht.form
      clear hs ht
      by_cases hl : 0 < t.length
      · have hl' : (0 : Int) < (t.length : Int) := by omega
        have HX := Lib.hid (show atomCheck ⟨m, s, t, n⟩ = 3 by
          unfold atomCheck; simp only; rw [if_neg HV.out, if_neg (by simp [HS.out]), if_neg (by rw [HT.out.1, HK.out]; simp), if_pos ⟨by rw [HT.out.1, HK.out], hl⟩])
        clear hl
        go_enter Tryz.func73, Tryz.ntmps73
        go_wp2_with fail
        refine (termCheck_any _ _ _ (HI _).out).mono ?_
        rw [HSE.out]
        rintro e w' ⟨rfl, rfl⟩
        go_wp2
        go_ret
        exact ⟨by rw [HX.out]; rfl, ((Below.refl _ _).alloc (Nat.le_refl _) _).alloc (by simp) _⟩
      · have hl' : ¬ (0 : Int) < (t.length : Int) := by omega
        have HL := Lib.hid hl
        clear hl
        by_cases n1 : n < -20
        · have d1 : decide (n < -20) = true := by simpa using n1
          have HX := Lib.hid (show atomCheck ⟨m, s, t, n⟩ = 1 by unfold atomCheck; simp only; rw [if_neg HV.out, if_neg (by simp [HS.out]), if_neg (by rw [HT.out.1, HK.out]; simp), if_neg (by intro h; exact HL.out h.2)]; simp [numBad, d1])
          go_enter Tryz.func73, Tryz.ntmps73
          go_wp2_with fail
          refine (termCheck_any _ _ _ (HI _).out).mono ?_
          rw [HSE.out]
          rintro e w' ⟨rfl, rfl⟩
          go_wp2
          go_ret
          exact ⟨by rw [HX.out]; rfl, ((Below.refl _ _).alloc (Nat.le_refl _) _).alloc (by simp) _⟩
        have d1 : decide (n < -20) = false := by simpa using n1
        by_cases n2 : 20 < n
        · have d2 : decide (20 < n) = true := by simpa using n2
          have HX := Lib.hid (show atomCheck ⟨m, s, t, n⟩ = 1 by unfold atomCheck; simp only; rw [if_neg HV.out, if_neg (by simp [HS.out]), if_neg (by rw [HT.out.1, HK.out]; simp), if_neg (by intro h; exact HL.out h.2)]; simp [numBad, d2])
          go_enter Tryz.func73, Tryz.ntmps73
          go_wp2_with fail
          refine (termCheck_any _ _ _ (HI _).out).mono ?_
          rw [HSE.out]
          rintro e w' ⟨rfl, rfl⟩
          go_wp2
          go_ret
          exact ⟨by rw [HX.out]; rfl, ((Below.refl _ _).alloc (Nat.le_refl _) _).alloc (by simp) _⟩
        have d2 : decide (20 < n) = false := by simpa using n2
        cases hkn : kn m
        · rw [hkn] at k2
          by_cases n3 : n = 0
          · subst n3
            have HX := Lib.hid (show atomCheck ⟨m, s, t, 0⟩ = 0 by unfold atomCheck; simp only; rw [if_neg HV.out, if_neg (by simp [HS.out]), if_neg (by rw [HT.out.1, HK.out]; simp), if_neg (by intro h; exact HL.out h.2)]; simp [numBad])
            clear hkn n1 n2
            go_enter Tryz.func73, Tryz.ntmps73
            go_wp2_with fail
            refine (termCheck_any _ _ _ (HI _).out).mono ?_
            rw [HSE.out]
            rintro e w' ⟨rfl, rfl⟩
            go_wp2
            go_ret
            exact ⟨by rw [HX.out]; rfl, ((Below.refl _ _).alloc (Nat.le_refl _) _).alloc (by simp) _⟩
          · have d3 : (n != 0) = true := by simpa using n3
            have HX := Lib.hid (show atomCheck ⟨m, s, t, n⟩ = 1 by unfold atomCheck; simp only; rw [if_neg HV.out, if_neg (by simp [HS.out]), if_neg (by rw [HT.out.1, HK.out]; simp), if_neg (by intro h; exact HL.out h.2)]; simp [numBad, HT.out.2, hkn, n3])
            clear hkn n3
            go_enter Tryz.func73, Tryz.ntmps73
            go_wp2_with fail
            refine (termCheck_any _ _ _ (HI _).out).mono ?_
            rw [HSE.out]
            rintro e w' ⟨rfl, rfl⟩
            go_wp2
            go_ret
            exact ⟨by rw [HX.out]; rfl, ((Below.refl _ _).alloc (Nat.le_refl _) _).alloc (by simp) _⟩
        · rw [hkn] at k2
          have HX := Lib.hid (show atomCheck ⟨m, s, t, n⟩ = 0 by unfold atomCheck; simp only; rw [if_neg HV.out, if_neg (by simp [HS.out]), if_neg (by rw [HT.out.1, HK.out]; simp), if_neg (by intro h; exact HL.out h.2)]; simp [numBad, d1, d2, HT.out.2, hkn])
          clear hkn
          go_enter Tryz.func73, Tryz.ntmps73
          go_wp2_with fail
          refine (termCheck_any _ _ _ (HI _).out).mono ?_
          rw [HSE.out]
          rintro e w' ⟨rfl, rfl⟩
          go_wp2
          go_ret
          exact ⟨by rw [HX.out]; rfl, ((Below.refl _ _).alloc (Nat.le_refl _) _).alloc (by simp) _⟩
    · have HK := Lib.hid hkt
      rw [hkt] at k1
      clear hkt
      clear hs ht
      rcases errV_or (termCheck t) with ⟨ht0, hte⟩ | ⟨ht0, hte⟩
      · have HT0 := Lib.hid ht0
        have HTE := Lib.hid hte
        clear ht0 hte
        by_cases n1 : n < -20
        · have d1 : decide (n < -20) = true := by simpa using n1
          have HX := Lib.hid (show atomCheck ⟨m, s, t, n⟩ = 1 by unfold atomCheck; simp only; rw [if_neg HV.out, if_neg (by simp [HS.out]), if_neg (by simp [HT0.out]), if_neg (by rw [HT.out.1, HK.out]; simp)]; simp [numBad, d1])
          go_enter Tryz.func73, Tryz.ntmps73
          go_wp2_with fail
          refine (termCheck_any _ _ _ (HI _).out).mono ?_
          rw [HSE.out]
          rintro e w' ⟨rfl, rfl⟩
          go_wp2_with fail
          refine (termCheck_any _ _ _ (HJ2 _ _).out).mono ?_
          rw [HTE.out]
          rintro e w' ⟨rfl, rfl⟩
          go_wp2
          go_ret
          exact ⟨by rw [HX.out]; rfl, ((Below.refl _ _).alloc (Nat.le_refl _) _).alloc (by simp) _⟩
        have d1 : decide (n < -20) = false := by simpa using n1
        by_cases n2 : 20 < n
        · have d2 : decide (20 < n) = true := by simpa using n2
          have HX := Lib.hid (show atomCheck ⟨m, s, t, n⟩ = 1 by unfold atomCheck; simp only; rw [if_neg HV.out, if_neg (by simp [HS.out]), if_neg (by simp [HT0.out]), if_neg (by rw [HT.out.1, HK.out]; simp)]; simp [numBad, d2])
          go_enter Tryz.func73, Tryz.ntmps73
          go_wp2_with fail
          refine (termCheck_any _ _ _ (HI _).out).mono ?_
          rw [HSE.out]
          rintro e w' ⟨rfl, rfl⟩
          go_wp2_with fail
          refine (termCheck_any _ _ _ (HJ2 _ _).out).mono ?_
          rw [HTE.out]
          rintro e w' ⟨rfl, rfl⟩
          go_wp2
          go_ret
          exact ⟨by rw [HX.out]; rfl, ((Below.refl _ _).alloc (Nat.le_refl _) _).alloc (by simp) _⟩
        have d2 : decide (20 < n) = false := by simpa using n2
        cases hkn : kn m
        · rw [hkn] at k2
          by_cases n3 : n = 0
          · subst n3
            have HX := Lib.hid (show atomCheck ⟨m, s, t, 0⟩ = 0 by unfold atomCheck; simp only; rw [if_neg HV.out, if_neg (by simp [HS.out]), if_neg (by simp [HT0.out]), if_neg (by rw [HT.out.1, HK.out]; simp)]; simp [numBad])
            clear hkn n1 n2
            go_enter Tryz.func73, Tryz.ntmps73
            go_wp2_with fail
            refine (termCheck_any _ _ _ (HI _).out).mono ?_
            rw [HSE.out]
            rintro e w' ⟨rfl, rfl⟩
            go_wp2_with fail
            refine (termCheck_any _ _ _ (HJ2 _ _).out).mono ?_
            rw [HTE.out]
            rintro e w' ⟨rfl, rfl⟩
            go_wp2
            go_ret
            exact ⟨by rw [HX.out]; rfl, ((Below.refl _ _).alloc (Nat.le_refl _) _).alloc (by simp) _⟩
          · have d3 : (n != 0) = true := by simpa using n3
            have HX := Lib.hid (show atomCheck ⟨m, s, t, n⟩ = 1 by unfold atomCheck; simp only; rw [if_neg HV.out, if_neg (by simp [HS.out]), if_neg (by simp [HT0.out]), if_neg (by rw [HT.out.1, HK.out]; simp)]; simp [numBad, HT.out.2, hkn, n3])
            clear hkn n3
            go_enter Tryz.func73, Tryz.ntmps73
            go_wp2_with fail
            refine (termCheck_any _ _ _ (HI _).out).mono ?_
            rw [HSE.out]
            rintro e w' ⟨rfl, rfl⟩
            go_wp2_with fail
            refine (termCheck_any _ _ _ (HJ2 _ _).out).mono ?_
            rw [HTE.out]
            rintro e w' ⟨rfl, rfl⟩
            go_wp2
            go_ret
            exact ⟨by rw [HX.out]; rfl, ((Below.refl _ _).alloc (Nat.le_refl _) _).alloc (by simp) _⟩
        · rw [hkn] at k2
          have HX := Lib.hid (show atomCheck ⟨m, s, t, n⟩ = 0 by unfold atomCheck; simp only; rw [if_neg HV.out, if_neg (by simp [HS.out]), if_neg (by simp [HT0.out]), if_neg (by rw [HT.out.1, HK.out]; simp)]; simp [numBad, d1, d2, HT.out.2, hkn])
          clear hkn
          go_enter Tryz.func73, Tryz.ntmps73
          go_wp2_with fail
          refine (termCheck_any _ _ _ (HI _).out).mono ?_
          rw [HSE.out]
          rintro e w' ⟨rfl, rfl⟩
          go_wp2_with fail
          refine (termCheck_any _ _ _ (HJ2 _ _).out).mono ?_
          rw [HTE.out]
          rintro e w' ⟨rfl, rfl⟩
          go_wp2
          go_ret
          exact ⟨by rw [HX.out]; rfl, ((Below.refl _ _).alloc (Nat.le_refl _) _).alloc (by simp) _⟩
      · have HX := Lib.hid (show atomCheck ⟨m, s, t, n⟩ = termCheck t by
          unfold atomCheck; simp only; rw [if_neg HV.out, if_neg (by simp [HS.out]), if_pos ⟨by rw [HT.out.1, HK.out], ht0⟩])
        have HTE := Lib.hid hte
        clear ht0 hte
        go_enter Tryz.func73, Tryz.ntmps73
        go_wp2_with fail
        refine (termCheck_any _ _ _ (HI _).out).mono ?_
        rw [HSE.out]
        rintro e w' ⟨rfl, rfl⟩
        go_wp2_with fail
        refine (termCheck_any _ _ _ (HJ2 _ _).out).mono ?_
        rw [HTE.out]
        rintro e w' ⟨rfl, rfl⟩
        go_wp2
        go_ret
        exact ⟨by rw [HX.out, HTE.out]; rfl, ((Below.refl _ _).alloc (Nat.le_refl _) _).alloc (by simp) _⟩
  · have HX := Lib.hid (show atomCheck ⟨m, s, t, n⟩ = termCheck s by unfold atomCheck; simp only; rw [if_neg HV.out, if_pos hs0])
    have HSE := Lib.hid hse
    clear hs0 hse hs ht
    go_enter Tryz.func73, Tryz.ntmps73
    go_wp2_with fail
    refine (termCheck_any _ _ _ (HI _).out).mono ?_
    rw [HSE.out]
    rintro e w' ⟨rfl, rfl⟩
    go_wp2
    go_ret
    exact ⟨by rw [HX.out, HSE.out]; rfl, (Below.refl _ _).alloc (Nat.le_refl _) _⟩
end Go.Proofs.YtpfinfneclmjkaaGreatDoor
