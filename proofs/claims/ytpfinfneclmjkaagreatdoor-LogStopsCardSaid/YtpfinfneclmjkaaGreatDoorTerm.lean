/- Package term: what its functions return. -/
import Derived.Test.YtpfinfneclmjkaaGreatDoorSets
namespace Go.Proofs.YtpfinfneclmjkaaGreatDoor
open Go.RowKit V

theorem takes_any (s : Int) (w : World) : Calls Tryz.prog 184 #[.int .i64 s] w fun e w' => e = .returned (.int .i64 (takes s)) ∧ w = w' := by
  unfold takes
  by_cases h8 : s = 8
  · subst h8
    go_enter Tryz.func184, Tryz.ntmps184
    go_wp2
    go_ret
    exact ⟨rfl, rfl⟩
  · have e8 : (s == 8) = false := by simpa using h8
    by_cases h5 : 5 ≤ s
    · go_enter Tryz.func184, Tryz.ntmps184
      go_wp2
      go_ret
      exact ⟨by simp [h8, h5], rfl⟩
    · go_enter Tryz.func184, Tryz.ntmps184
      go_wp2
      go_ret
      exact ⟨by simp [h8, h5], rfl⟩

theorem check1_any (s : Int) (w : World) : Calls Tryz.prog 183 #[.int .i64 s] w fun e w' => e = .returned (.bool (signBad s)) ∧ w = w' := by
  unfold signBad
  by_cases h0 : s < 0
  · have h0' : decide (s < 0) = true := by simpa using h0
    go_enter Tryz.func183, Tryz.ntmps183
    go_wp2
    go_ret
    exact ⟨ret_bool (by simp [h0]), rfl⟩
  · have h0' : decide (s < 0) = false := by simpa using h0
    go_enter Tryz.func183, Tryz.ntmps183
    go_wp2
    go_ret
    exact ⟨ret_bool (by simp [h0]), rfl⟩

/-- slices.IndexFunc over ints: the predicate leaves the world as it is -/
def idxBy (p : Int → Bool) : List Int → Int → Int
  | [], _ => -1
  | x :: r, i => if p x then i else idxBy p r (i + 1)
theorem idxBy_any (p : Int → Bool) (l : List Int) : ∀ i, 0 ≤ i → decide (0 ≤ idxBy p l i) = l.any p := by
  induction l with
  | nil => intro i _; simp [idxBy]
  | cons x r ih =>
    intro i hi
    unfold idxBy
    by_cases h : p x
    · simp [h, hi]
    · simp [h, ih (i + 1) (by omega)]

theorem idxBy_no (p : Int → Bool) (l : List Int) (k : Nat) (hk : ∀ j, j < k → ∀ h : j < l.length, p l[j] = false) (hl : k ≤ l.length) : idxBy p l 0 = idxBy p (l.drop k) k := by
  induction k with
  | zero => rfl
  | succ k ih =>
    rw [ih (fun j hj h => hk j (by omega) h) (by omega), List.drop_eq_getElem_cons (by omega)]
    have h := hk k (by omega) (by omega)
    simp [idxBy, h]

set_option maxHeartbeats 400000 in
set_option maxRecDepth 100000 in
theorem indexFunc_any {P : Nat → Prop} (F : FuncId) (cap : Array Value) (p : Int → Bool) (v : Value) (l : List Int) (w : World) (hv : Ints P w v l) (hF : Enters F)
    (hp : ∀ x ∈ l, Calls Tryz.prog F (#[.int .i64 x] ++ cap) w fun e w' => e = .returned (.bool (p x)) ∧ w = w') :
    Calls Tryz.prog 221 #[v, .func (.func F) #[] cap] w fun e w' => e = .returned (.int .i64 (idxBy p l 0)) ∧ w = w' := by
  rcases hv with ⟨ao, rfl, rfl⟩ | ⟨b, off, c, rfl, h2, h3, _, h5, h6⟩
  · go_enter Tryz.func221, Tryz.ntmps221
    go_wp2
    go_loop [8] (fun i => i = .int .i64 0) (fun _ => 0)
    case atStart => rfl
    case round =>
      subst hrel
      go_wp2
      go_ret
      exact ⟨rfl, rfl⟩
  · unfold maxLen at h3
    have HP := Lib.hid hp
    unfold Enters at hF
    have H6 := Lib.hid h6
    clear hp h6
    go_enter Tryz.func221, Tryz.ntmps221
    go_wp2
    go_loop [5, 8] (fun u i => ∃ k : Nat, k ≤ l.length ∧ i = .int .i64 k ∧ (∀ j, j < k → ∀ h : j < l.length, p l[j] = false)) (fun _ i => l.length - (intOf i).toNat)
    case atStart => exact ⟨0, Nat.zero_le _, rfl, fun j hj _ => by omega⟩
    case round =>
      obtain ⟨k, hk, rfl, hno⟩ := hrel
      have HN := Lib.hid hno
      clear hno
      by_cases hlt : k < l.length
      · have hc := H6.out k hlt
        have hmem : l[k] ∈ l := List.getElem_mem hlt
        cases hpk : p l[k]
        · have HK := Lib.hid hpk
          clear hpk
          go_wp2_with fail
          refine (HP.out _ hmem).mono ?_
          rw [HK.out]
          rintro e w' ⟨rfl, rfl⟩
          go_wp2
          go_round
          case rel => exact ⟨k + 1, by omega, by go_num, fun j hj h => by
            by_cases h' : j = k
            · subst h'; exact HK.out
            · exact HN.out j (by omega) h⟩
          case measure => simp [intOf]; omega
        · have HK := Lib.hid hpk
          clear hpk
          go_wp2_with fail
          refine (HP.out _ hmem).mono ?_
          rw [HK.out]
          rintro e w' ⟨rfl, rfl⟩
          go_wp2
          go_ret
          refine ⟨ret_int ?_, rfl⟩
          rw [idxBy_no p l k HN.out hk, List.drop_eq_getElem_cons hlt]
          simp [idxBy, HK.out]
      · go_wp2
        go_ret
        refine ⟨ret_int ?_, rfl⟩
        rw [idxBy_no p l k HN.out hk, List.drop_eq_nil_of_le (by omega)]
        rfl
theorem containsFunc_any {P : Nat → Prop} (F : FuncId) (cap : Array Value) (p : Int → Bool) (v : Value) (l : List Int) (w : World) (hv : Ints P w v l) (hF : Enters F)
    (hp : ∀ x ∈ l, Calls Tryz.prog F (#[.int .i64 x] ++ cap) w fun e w' => e = .returned (.bool (p x)) ∧ w = w') :
    Calls Tryz.prog 182 #[v, .func (.func F) #[] cap] w fun e w' => e = .returned (.bool (l.any p)) ∧ w = w' := by
  have HC := Lib.hid (indexFunc_any F cap p v l w hv hF hp)
  clear hp hv hF
  go_enter Tryz.func182, Tryz.ntmps182
  go_wp2_with fail
  refine HC.out.mono ?_
  rintro e w' ⟨rfl, rfl⟩
  go_wp2
  go_ret
  exact ⟨ret_bool (idxBy_any p l 0 (by omega)), rfl⟩

theorem enters_check1 : Enters 183 := fun _ _ => by kernel_rfl

theorem drop_cons {α : Type} (l : List α) (k : Nat) (h : k < l.length) : l.drop k = l[k] :: l.drop (k + 1) := List.drop_eq_getElem_cons h

set_option maxHeartbeats 400000 in
set_option maxRecDepth 100000 in
theorem termCheck_any {P : Nat → Prop} (v : Value) (t : List Int) (w : World) (hv : Ints P w v t) :
    Calls Tryz.prog 127 #[v] w fun e w' => e = .returned (errV (termCheck t)) ∧ w = w' := by
  have HC := Lib.hid (containsFunc_any 183 #[] signBad v t w hv enters_check1 (fun x _ => check1_any x w))
  rcases hv with ⟨ao, rfl, rfl⟩ | ⟨b, off, c, rfl, h2, h3, _, h5, h6⟩
  · go_enter Tryz.func127, Tryz.ntmps127
    go_wp2
    go_ret
    exact ⟨rfl, rfl⟩
  · unfold maxLen at h3
    have H6 := Lib.hid h6
    clear h6
    by_cases h0 : t.length = 0
    · have e0 : ((t.length : Int) == 0) = true := by simpa using h0
      have HX := Lib.hid (show termCheck t = 5 by simp [termCheck, h0])
      clear h0
      go_enter Tryz.func127, Tryz.ntmps127
      go_wp2
      go_ret
      exact ⟨by rw [HX.out]; rfl, rfl⟩
    have e0 : ((t.length : Int) == 0) = false := by simpa using h0
    by_cases h12 : 12 < t.length
    · have HX := Lib.hid (show termCheck t = 4 by simp [termCheck, h0, h12])
      have h12' : (12 : Int) < (t.length : Int) := by omega
      clear h0
      go_enter Tryz.func127, Tryz.ntmps127
      go_wp2
      go_ret
      exact ⟨by rw [HX.out]; rfl, rfl⟩
    have h12' : ¬ (12 : Int) < (t.length : Int) := by omega
    cases hb : t.any signBad
    · have HB := Lib.hid hb
      clear hb
      have h00 := Lib.hid h0
      have h13 := Lib.hid h12
      clear h0 h12
      go_enter Tryz.func127, Tryz.ntmps127
      go_wp2_with fail
      refine HC.out.mono ?_
      rw [HB.out]
      rintro e w' ⟨rfl, rfl⟩
      go_wp2
      go_loop [3, 22] (fun m i => ∃ (k : Nat) (n : Int), k ≤ t.length ∧ i = .int .i64 k ∧ m = .int .i64 n ∧ 0 ≤ n ∧ n ≤ k ∧ termMany n (t.drop k) = termMany 0 t) (fun _ i => t.length - (intOf i).toNat)
      case atStart => exact ⟨0, 0, Nat.zero_le _, rfl, rfl, by omega, by omega, rfl⟩
      case round =>
        obtain ⟨k, n, hk, rfl, rfl, hn0, hnk, hm⟩ := hrel
        by_cases hlt : k < t.length
        · have hc := H6.out k hlt
          have hb := takes_bd t[k]
          rw [drop_cons _ _ hlt, termMany_cons] at hm
          by_cases hs : n < takes t[k]
          · rw [if_pos hs] at hm
            have HX := Lib.hid (show termCheck t = 3 by simp [termCheck, h00.out, h13.out, HB.out, ← hm])
            clear hm
            go_wp2_with (go_at_call 184; refine (takes_any _ _).mono ?_; rintro e w' ⟨rfl, rfl⟩)
            go_ret
            exact ⟨by rw [HX.out]; rfl, rfl⟩
          · rw [if_neg hs] at hm
            have HM := Lib.hid hm
            clear hm
            go_wp2_with (go_at_call 184; refine (takes_any _ _).mono ?_; rintro e w' ⟨rfl, rfl⟩)
            go_round
            case rel => exact ⟨k + 1, n + (1 - takes t[k]), by omega, by go_num, rfl, by omega, by omega, HM.out⟩
            case measure => simp [intOf]; omega
        · rw [List.drop_eq_nil_of_le (by omega)] at hm
          rw [termMany_nil] at hm
          have hkk : (k : Int) = t.length := by omega
          have HM := Lib.hid hm
          clear hm hkk
          by_cases h1 : n = 1
          · have HX := Lib.hid (show termCheck t = 0 by simp [termCheck, h00.out, h13.out, HB.out, ← HM.out, h1])
            have e1 : (n != 1) = false := by simpa using h1
            clear h1
            go_wp2
            go_ret
            exact ⟨by rw [HX.out]; rfl, rfl⟩
          · have HX := Lib.hid (show termCheck t = 3 by simp [termCheck, h00.out, h13.out, HB.out, ← HM.out, h1])
            have e1 : (n != 1) = true := by simpa using h1
            clear h1
            go_wp2
            go_ret
            exact ⟨by rw [HX.out]; rfl, rfl⟩
    · have HX := Lib.hid (show termCheck t = 1 by unfold termCheck; rw [if_neg h0, if_neg h12, if_pos hb])
      have HB := Lib.hid hb
      clear hb h0
      go_enter Tryz.func127, Tryz.ntmps127
      go_wp2_with fail
      refine HC.out.mono ?_
      rw [HB.out]
      rintro e w' ⟨rfl, rfl⟩
      go_wp2
      go_ret
      exact ⟨by rw [HX.out]; rfl, rfl⟩
end Go.Proofs.YtpfinfneclmjkaaGreatDoor
