/- Package fit: the counts that come behind. No condition but that counts are small. -/
import Derived.Test.YtpfinfneclmjkaaGreatDoorData
namespace Go.Proofs.YtpfinfneclmjkaaGreatDoor
open Go.RowKit V

/-- counts as a value -/
def cv (l : List Int) : Value := .agg (l.map (Value.int .i64)).toArray
def After (o : Option (List Int)) (l : List Int) (B : Nat) (w : World) (e : Ending) (w' : World) : Prop :=
  (match o with
    | some r => e = .returned (.tuple #[cv r, .bool true])
    | none => e = .returned (.tuple #[cv l, .bool false])) ∧ Below B w w'

set_option maxHeartbeats 4000000 in
set_option maxRecDepth 100000 in
theorem after_any (n0 n1 n2 n3 n4 n5 n6 n7 : Int) (w : World) (h0 : 0 ≤ n0 ∧ n0 ≤ 6) (h1 : 0 ≤ n1 ∧ n1 ≤ 6) (h2 : 0 ≤ n2 ∧ n2 ≤ 6) (h3 : 0 ≤ n3 ∧ n3 ≤ 6) (h4 : 0 ≤ n4 ∧ n4 ≤ 6) (h5 : 0 ≤ n5 ∧ n5 ≤ 6) (h6 : 0 ≤ n6 ∧ n6 ≤ 6) (h7 : 0 ≤ n7 ∧ n7 ≤ 6) :
    Calls Tryz.prog 160 #[.agg #[.int .i64 n0, .int .i64 n1, .int .i64 n2, .int .i64 n3, .int .i64 n4, .int .i64 n5, .int .i64 n6, .int .i64 n7]] w (After (afterL [n0, n1, n2, n3, n4, n5, n6, n7]) [n0, n1, n2, n3, n4, n5, n6, n7] w.heap.size w) := by
  go_enter Tryz.func160, Tryz.ntmps160
  go_wp2
  go_loop [5] (fun i => ∃ k : Nat, k ≤ 7 ∧ i = .int .i64 k ∧ (k < 1 → n1 = 0) ∧ (k < 2 → n2 = 0) ∧ (k < 3 → n3 = 0) ∧ (k < 4 → n4 = 0) ∧ (k < 5 → n5 = 0) ∧ (k < 6 → n6 = 0) ∧ (k < 7 → n7 = 0)) (fun i => (intOf i).toNat)
  case atStart => exact ⟨7, by omega, rfl, fun h => by omega, fun h => by omega, fun h => by omega, fun h => by omega, fun h => by omega, fun h => by omega, fun h => by omega⟩
  case round =>
    obtain ⟨k, hk, rfl, z1, z2, z3, z4, z5, z6, z7⟩ := hrel
    have hk' : k = 0 ∨ k = 1 ∨ k = 2 ∨ k = 3 ∨ k = 4 ∨ k = 5 ∨ k = 6 ∨ k = 7 := by omega
    rcases hk' with rfl | rfl | rfl | rfl | rfl | rfl | rfl | rfl
    · have HX := Lib.hid (show afterL [n0, n1, n2, n3, n4, n5, n6, n7] = none by simp [afterL, z1 (by omega), z2 (by omega), z3 (by omega), z4 (by omega), z5 (by omega), z6 (by omega), z7 (by omega)])
      clear z1 z2 z3 z4 z5 z6 z7 hk
      go_wp2
      refine bodyPost_ret (v := .tuple #[.agg #[.int .i64 n0, .int .i64 n1, .int .i64 n2, .int .i64 n3, .int .i64 n4, .int .i64 n5, .int .i64 n6, .int .i64 n7], .bool false]) (by simp [results, Tryz.results160, go_sem]) rfl ?_
      unfold After; rw [HX.out]
      exact ⟨rfl, ((Below.refl _ _).alloc (Nat.le_refl _) _).alloc (by simp) _⟩
    · by_cases hn : n1 = 0
      · have e : (n1 == 0) = true := by simpa using hn
        have HZ := Lib.hid (And.intro hn (show n2 = 0 ∧ n3 = 0 ∧ n4 = 0 ∧ n5 = 0 ∧ n6 = 0 ∧ n7 = 0 from ⟨z2 (by omega), z3 (by omega), z4 (by omega), z5 (by omega), z6 (by omega), z7 (by omega)⟩))
        clear hn z1 z2 z3 z4 z5 z6 z7 hk
        go_wp2
        go_round
        case rel => exact ⟨0, by omega, by go_num, fun _ => HZ.out.1, fun _ => HZ.out.2.1, fun _ => HZ.out.2.2.1, fun _ => HZ.out.2.2.2.1, fun _ => HZ.out.2.2.2.2.1, fun _ => HZ.out.2.2.2.2.2.1, fun _ => HZ.out.2.2.2.2.2.2⟩
        case measure => simp [intOf]
      · have e : (n1 == 0) = false := by simpa using hn
        have HX := Lib.hid (show afterL [n0, n1, n2, n3, n4, n5, n6, n7] = some [n0 + 1, 0, n2, n3, n4, n5, n6, n1 - 1] by simp [afterL, hn, z2 (by omega), z3 (by omega), z4 (by omega), z5 (by omega), z6 (by omega), z7 (by omega)])
        clear z1 z2 z3 z4 z5 z6 z7 hk
        go_wp2
        refine bodyPost_ret (v := .tuple #[.agg #[.int .i64 (n0 + 1), .int .i64 0, .int .i64 n2, .int .i64 n3, .int .i64 n4, .int .i64 n5, .int .i64 n6, .int .i64 (n1 - 1)], .bool true]) (by simp [results, Tryz.results160, go_sem]) rfl ?_
        unfold After; rw [HX.out]
        exact ⟨rfl, by repeat (first | exact Below.refl _ _ | refine Below.setCell ?_ (by simp) _ | refine Below.alloc ?_ (by simp) _)⟩
    · by_cases hn : n2 = 0
      · have e : (n2 == 0) = true := by simpa using hn
        have HZ := Lib.hid (And.intro hn (show n3 = 0 ∧ n4 = 0 ∧ n5 = 0 ∧ n6 = 0 ∧ n7 = 0 from ⟨z3 (by omega), z4 (by omega), z5 (by omega), z6 (by omega), z7 (by omega)⟩))
        clear hn z1 z2 z3 z4 z5 z6 z7 hk
        go_wp2
        go_round
        case rel => exact ⟨1, by omega, by go_num, fun h => by omega, fun _ => HZ.out.1, fun _ => HZ.out.2.1, fun _ => HZ.out.2.2.1, fun _ => HZ.out.2.2.2.1, fun _ => HZ.out.2.2.2.2.1, fun _ => HZ.out.2.2.2.2.2⟩
        case measure => simp [intOf]
      · have e : (n2 == 0) = false := by simpa using hn
        have HX := Lib.hid (show afterL [n0, n1, n2, n3, n4, n5, n6, n7] = some [n0, n1 + 1, 0, n3, n4, n5, n6, n2 - 1] by simp [afterL, hn, z3 (by omega), z4 (by omega), z5 (by omega), z6 (by omega), z7 (by omega)])
        clear z1 z2 z3 z4 z5 z6 z7 hk
        go_wp2
        refine bodyPost_ret (v := .tuple #[.agg #[.int .i64 n0, .int .i64 (n1 + 1), .int .i64 0, .int .i64 n3, .int .i64 n4, .int .i64 n5, .int .i64 n6, .int .i64 (n2 - 1)], .bool true]) (by simp [results, Tryz.results160, go_sem]) rfl ?_
        unfold After; rw [HX.out]
        exact ⟨rfl, by repeat (first | exact Below.refl _ _ | refine Below.setCell ?_ (by simp) _ | refine Below.alloc ?_ (by simp) _)⟩
    · by_cases hn : n3 = 0
      · have e : (n3 == 0) = true := by simpa using hn
        have HZ := Lib.hid (And.intro hn (show n4 = 0 ∧ n5 = 0 ∧ n6 = 0 ∧ n7 = 0 from ⟨z4 (by omega), z5 (by omega), z6 (by omega), z7 (by omega)⟩))
        clear hn z1 z2 z3 z4 z5 z6 z7 hk
        go_wp2
        go_round
        case rel => exact ⟨2, by omega, by go_num, fun h => by omega, fun h => by omega, fun _ => HZ.out.1, fun _ => HZ.out.2.1, fun _ => HZ.out.2.2.1, fun _ => HZ.out.2.2.2.1, fun _ => HZ.out.2.2.2.2⟩
        case measure => simp [intOf]
      · have e : (n3 == 0) = false := by simpa using hn
        have HX := Lib.hid (show afterL [n0, n1, n2, n3, n4, n5, n6, n7] = some [n0, n1, n2 + 1, 0, n4, n5, n6, n3 - 1] by simp [afterL, hn, z4 (by omega), z5 (by omega), z6 (by omega), z7 (by omega)])
        clear z1 z2 z3 z4 z5 z6 z7 hk
        go_wp2
        refine bodyPost_ret (v := .tuple #[.agg #[.int .i64 n0, .int .i64 n1, .int .i64 (n2 + 1), .int .i64 0, .int .i64 n4, .int .i64 n5, .int .i64 n6, .int .i64 (n3 - 1)], .bool true]) (by simp [results, Tryz.results160, go_sem]) rfl ?_
        unfold After; rw [HX.out]
        exact ⟨rfl, by repeat (first | exact Below.refl _ _ | refine Below.setCell ?_ (by simp) _ | refine Below.alloc ?_ (by simp) _)⟩
    · by_cases hn : n4 = 0
      · have e : (n4 == 0) = true := by simpa using hn
        have HZ := Lib.hid (And.intro hn (show n5 = 0 ∧ n6 = 0 ∧ n7 = 0 from ⟨z5 (by omega), z6 (by omega), z7 (by omega)⟩))
        clear hn z1 z2 z3 z4 z5 z6 z7 hk
        go_wp2
        go_round
        case rel => exact ⟨3, by omega, by go_num, fun h => by omega, fun h => by omega, fun h => by omega, fun _ => HZ.out.1, fun _ => HZ.out.2.1, fun _ => HZ.out.2.2.1, fun _ => HZ.out.2.2.2⟩
        case measure => simp [intOf]
      · have e : (n4 == 0) = false := by simpa using hn
        have HX := Lib.hid (show afterL [n0, n1, n2, n3, n4, n5, n6, n7] = some [n0, n1, n2, n3 + 1, 0, n5, n6, n4 - 1] by simp [afterL, hn, z5 (by omega), z6 (by omega), z7 (by omega)])
        clear z1 z2 z3 z4 z5 z6 z7 hk
        go_wp2
        refine bodyPost_ret (v := .tuple #[.agg #[.int .i64 n0, .int .i64 n1, .int .i64 n2, .int .i64 (n3 + 1), .int .i64 0, .int .i64 n5, .int .i64 n6, .int .i64 (n4 - 1)], .bool true]) (by simp [results, Tryz.results160, go_sem]) rfl ?_
        unfold After; rw [HX.out]
        exact ⟨rfl, by repeat (first | exact Below.refl _ _ | refine Below.setCell ?_ (by simp) _ | refine Below.alloc ?_ (by simp) _)⟩
    · by_cases hn : n5 = 0
      · have e : (n5 == 0) = true := by simpa using hn
        have HZ := Lib.hid (And.intro hn (show n6 = 0 ∧ n7 = 0 from ⟨z6 (by omega), z7 (by omega)⟩))
        clear hn z1 z2 z3 z4 z5 z6 z7 hk
        go_wp2
        go_round
        case rel => exact ⟨4, by omega, by go_num, fun h => by omega, fun h => by omega, fun h => by omega, fun h => by omega, fun _ => HZ.out.1, fun _ => HZ.out.2.1, fun _ => HZ.out.2.2⟩
        case measure => simp [intOf]
      · have e : (n5 == 0) = false := by simpa using hn
        have HX := Lib.hid (show afterL [n0, n1, n2, n3, n4, n5, n6, n7] = some [n0, n1, n2, n3, n4 + 1, 0, n6, n5 - 1] by simp [afterL, hn, z6 (by omega), z7 (by omega)])
        clear z1 z2 z3 z4 z5 z6 z7 hk
        go_wp2
        refine bodyPost_ret (v := .tuple #[.agg #[.int .i64 n0, .int .i64 n1, .int .i64 n2, .int .i64 n3, .int .i64 (n4 + 1), .int .i64 0, .int .i64 n6, .int .i64 (n5 - 1)], .bool true]) (by simp [results, Tryz.results160, go_sem]) rfl ?_
        unfold After; rw [HX.out]
        exact ⟨rfl, by repeat (first | exact Below.refl _ _ | refine Below.setCell ?_ (by simp) _ | refine Below.alloc ?_ (by simp) _)⟩
    · by_cases hn : n6 = 0
      · have e : (n6 == 0) = true := by simpa using hn
        have HZ := Lib.hid (And.intro hn (z7 (by omega)))
        clear hn z1 z2 z3 z4 z5 z6 z7 hk
        go_wp2
        go_round
        case rel => exact ⟨5, by omega, by go_num, fun h => by omega, fun h => by omega, fun h => by omega, fun h => by omega, fun h => by omega, fun _ => HZ.out.1, fun _ => HZ.out.2⟩
        case measure => simp [intOf]
      · have e : (n6 == 0) = false := by simpa using hn
        have HX := Lib.hid (show afterL [n0, n1, n2, n3, n4, n5, n6, n7] = some [n0, n1, n2, n3, n4, n5 + 1, 0, n6 - 1] by simp [afterL, hn, z7 (by omega)])
        clear z1 z2 z3 z4 z5 z6 z7 hk
        go_wp2
        refine bodyPost_ret (v := .tuple #[.agg #[.int .i64 n0, .int .i64 n1, .int .i64 n2, .int .i64 n3, .int .i64 n4, .int .i64 (n5 + 1), .int .i64 0, .int .i64 (n6 - 1)], .bool true]) (by simp [results, Tryz.results160, go_sem]) rfl ?_
        unfold After; rw [HX.out]
        exact ⟨rfl, by repeat (first | exact Below.refl _ _ | refine Below.setCell ?_ (by simp) _ | refine Below.alloc ?_ (by simp) _)⟩
    · by_cases hn : n7 = 0
      · have e : (n7 == 0) = true := by simpa using hn
        have HZ := Lib.hid (And.intro hn (And.intro (trivial) trivial))
        clear hn z1 z2 z3 z4 z5 z6 z7 hk
        go_wp2
        go_round
        case rel => exact ⟨6, by omega, by go_num, fun h => by omega, fun h => by omega, fun h => by omega, fun h => by omega, fun h => by omega, fun h => by omega, fun _ => HZ.out.1⟩
        case measure => simp [intOf]
      · have e : (n7 == 0) = false := by simpa using hn
        have HX := Lib.hid (show afterL [n0, n1, n2, n3, n4, n5, n6, n7] = some [n0, n1, n2, n3, n4, n5, n6 + 1, n7 - 1] by simp [afterL, hn])
        clear z1 z2 z3 z4 z5 z6 z7 hk
        go_wp2
        refine bodyPost_ret (v := .tuple #[.agg #[.int .i64 n0, .int .i64 n1, .int .i64 n2, .int .i64 n3, .int .i64 n4, .int .i64 n5, .int .i64 (n6 + 1), .int .i64 (n7 - 1)], .bool true]) (by simp [results, Tryz.results160, go_sem]) rfl ?_
        unfold After; rw [HX.out]
        exact ⟨rfl, by repeat (first | exact Below.refl _ _ | refine Below.setCell ?_ (by simp) _ | refine Below.alloc ?_ (by simp) _)⟩
end Go.Proofs.YtpfinfneclmjkaaGreatDoor
