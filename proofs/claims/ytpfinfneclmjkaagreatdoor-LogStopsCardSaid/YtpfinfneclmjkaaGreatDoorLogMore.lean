/- The log: Safe, Fail, Sync and Crash. Conditions: the log lies in a block; its bytes are whole lines and what was cut of one; a line for each formula. -/
import Derived.Test.YtpfinfneclmjkaaGreatDoorSay2
import Derived.Test.YtpfinfneclmjkaaGreatDoorCrashP
import Derived.Test.YtpfinfneclmjkaaGreatDoorShelf
import Derived.StillTailTactics
import Derived.Deep.QuietTactic
import Derived.BigQuiet
namespace Go.Proofs.YtpfinfneclmjkaaGreatDoor
open Go.RowKit V

theorem Fms.take {P : Nat → Prop} {w : World} {ao : Option Addr} {cap : Nat} {l : List Fm} (h : Fms P w (.slice ao l.length cap) l) (m : Nat) (hm : m ≤ l.length) : Fms P w (.slice ao m cap) (l.take m) := by
  rcases h with ⟨h, rfl⟩ | ⟨b, off, cap', h, h1, h2, h3, h4, h5⟩
  · simp only [Value.slice.injEq] at h
    obtain ⟨rfl, -, rfl⟩ := h
    have : m = 0 := by simpa using hm
    subst this
    exact .inl ⟨rfl, rfl⟩
  · simp only [Value.slice.injEq] at h
    obtain ⟨rfl, -, rfl⟩ := h
    refine .inr ⟨b, off, cap, ?_, ?_, h2, h3, h4, fun i hi => ?_⟩
    · rw [List.length_take, Nat.min_eq_left hm]
    · rw [List.length_take, Nat.min_eq_left hm]; omega
    · rw [List.getElem_take]
      exact h5 i (by rw [List.length_take] at hi; omega)

set_option maxRecDepth 100000 in
theorem safe_any (b : Nat) (u : Int) (vs : Value) (y : ByteArray) (s l : Int) (st : Bool) (w : World) (h : LogAt w b u vs y s l st) :
    Calls Tryz.prog 40 #[.pointer (some ⟨b, 0, none⟩)] w fun e w' => e = .returned (.int .i64 s) ∧ w = w' := by
  obtain ⟨c0, c1, c2, c3, c4, c5, hf⟩ := h.cells
  clear h hf
  go_enter Tryz.func40, Tryz.ntmps40
  go_wp2
  go_ret
  exact ⟨rfl, rfl⟩

set_option maxRecDepth 100000 in
theorem fail_any (b : Nat) (u : Int) (vs : Value) (y : ByteArray) (s l : Int) (st : Bool) (n : Int) (w : World) (h : LogAt w b u vs y s l st) :
    Calls Tryz.prog 41 #[.pointer (some ⟨b, 0, none⟩), .int .i64 n] w fun e w' => e = .returned (.tuple #[]) ∧ LogAt w' b u vs y s (max (-1) n) st ∧ w.grownBy w' (some b) := by
  obtain ⟨c0, c1, c2, c3, c4, c5, hf⟩ := h.cells
  have f4 := hf 4
  have HH := Lib.hid h
  clear h hf
  go_enter Tryz.func41, Tryz.ntmps41
  go_wp2
  go_end0
  refine ⟨rfl, ?_, gb_set _ _ _ _⟩
  have h := HH.out
  unfold LogAt at h ⊢
  simp [World.setCell, Array.getElem?_modify, h]

set_option maxRecDepth 100000 in
theorem sync_stopped (b : Nat) (u : Int) (vs : Value) (y : ByteArray) (s l : Int) (w : World) (h : LogAt w b u vs y s l true) :
    Calls Tryz.prog 32 #[.pointer (some ⟨b, 0, none⟩)] w fun e w' => e = .returned (errV 6) ∧ Below w.heap.size w w' := by
  obtain ⟨c0, c1, c2, c3, c4, c5, hf⟩ := h.cells
  clear h hf
  go_enter Tryz.func32, Tryz.ntmps32
  go_wp2
  go_ret
  exact ⟨rfl, Below.refl _ _⟩

set_option maxRecDepth 100000 in
theorem sync_any (b : Nat) (u : Int) (vs : Value) (y : ByteArray) (s l : Int) (w : World) (h : LogAt w b u vs y s l false) (hl : -1 ≤ l ∧ l ≤ 1000000000000) :
    Calls Tryz.prog 32 #[.pointer (some ⟨b, 0, none⟩)] w fun e w' => ((l = 0 ∧ e = .returned (errV 6) ∧ LogAt w' b u vs y s (-1) true) ∨ (l ≠ 0 ∧ e = .returned .nilIface ∧ LogAt w' b u vs y y.size (max (-1) (l - 1)) false)) ∧ w.grownBy w' (some b) := by
  obtain ⟨c0, c1, c2, c3, c4, c5, hf⟩ := h.cells
  have HH := Lib.hid h
  clear h hf
  go_enter Tryz.func32, Tryz.ntmps32
  go_wp2_with fail
  refine (step_any b u vs y s l false w HH.out hl).mono ?_
  rintro e w1 ⟨rfl, hL, hg⟩
  obtain ⟨d0, d1, d2, d3, d4, d5, hf⟩ := hL.cells
  have f3 := hf 3
  have HL := Lib.hid hL
  have HG := Lib.hid hg
  clear hL hg hf c0 c1 c2 c3 c4 c5
  by_cases h0 : l = 0
  · have e0 : (l == 0) = true := by simp [h0]
    rw [e0] at HL d5
    rw [e0]
    have hm : max (-1) (l - 1) = -1 := by omega
    rw [hm] at HL d4
    have H0 := Lib.hid h0
    clear h0 e0 hm
    go_wp2
    go_ret
    exact ⟨.inl ⟨H0.out, rfl, HL.out⟩, HG.out⟩
  · have e0 : (l == 0) = false := by simp [h0]
    rw [e0] at HL d5
    rw [e0]
    have H0 := Lib.hid h0
    clear h0 e0
    go_wp2
    go_ret
    refine ⟨.inr ⟨H0.out, rfl, ?_⟩, gb_trans HG.out (gb_set _ _ _ _)⟩
    have h := HL.out
    unfold LogAt at h ⊢
    simp [World.setCell, Array.getElem?_modify, h]

set_option maxHeartbeats 2000000 in
set_option maxRecDepth 100000 in
theorem crash_any {P : Nat → Prop} (b : Nat) (u : Int) (vs : Value) (y : ByteArray) (s l : Int) (st : Bool) (said : List Fm) (keep : Int) (w : World) (h : LogAt w b u vs y s l st) (hv : Fms P w vs said)
    (ls : List (List UInt8)) (part : List UInt8) (hy : BytesAre y ls part) (hn : ls.length = said.length) (hs : 0 ≤ s ∧ s ≤ y.size) (hsz : y.size ≤ 1000000000) (hP : ∀ k, P k → k ≠ b) :
    Calls Tryz.prog 33 #[.pointer (some ⟨b, 0, none⟩), .int .i64 keep] w fun e w' => e = .returned (.tuple #[]) ∧ w.grownBy w' (some b) ∧
      let m := whole (ls.map List.length) (s + max 0 (min keep (y.size - s))).toNat
      ∃ vs' y', LogAt w' b u vs' y' y'.size (-1) false ∧ Fms P w' vs' (said.take m) ∧ BytesAre y' (ls.take m) [] := by
  obtain ⟨c0, c1, c2, c3, c4, c5, hf⟩ := h.cells
  obtain ⟨ao, cap, rfl⟩ := hv.form
  have f1 := hf 1
  have f2 := hf 2
  have f3 := hf 3
  have f4 := hf 4
  have f5 := hf 5
  have HH := Lib.hid h
  have HV := Lib.hid hv
  have HY := Lib.hid hy
  obtain ⟨p, hp⟩ : ∃ p, (s + max 0 (min keep (y.size - s))).toNat = p := ⟨_, rfl⟩
  have hp1 : s + max 0 (min keep (y.size - s)) = (p : Int) := by omega
  have hp2 : p ≤ y.size := by omega
  have HP := Lib.hid hP
  have hlm := whole_le (ls.map List.length) p
  rw [List.length_map] at hlm
  have HC := Lib.hid (crash_cut hy p)
  simp only [hp]
  clear h hf hv hy hP
  go_enter Tryz.func33, Tryz.ntmps33
  have w1 : IntKind.i64.wrap ((y.size : Int) - s) = y.size - s := IntWalk.i64_in _ (by omega)
  have w2 : IntKind.i64.wrap (s + max 0 (min keep (y.size - s))) = (p : Int) := by rw [hp1]; exact IntWalk.i64_in _ (by omega)
  go_wp2
  go_quiet ((fail))
  obtain ⟨W1, hW1⟩ : ∃ W1, w.drewN nq = W1 := ⟨_, rfl⟩
  rw [hW1]
  have gg : Hid (w.grownBy W1 (some b)) := Lib.hid (by rw [← hW1]; exact gb_below (below_drewN (Below.refl w.heap.size w) nq))
  have g1 : W1.cell? ⟨b, 1, none⟩ = some (.slice ao said.length cap) := by rw [← hW1]; exact c1
  have g2 : W1.cell? ⟨b, 2, none⟩ = some (.string y) := by rw [← hW1]; exact c2
  have g3 : W1.cell? ⟨b, 3, none⟩ = some (.int .i64 s) := by rw [← hW1]; exact c3
  have g4 : W1.cell? ⟨b, 4, none⟩ = some (.int .i64 l) := by rw [← hW1]; exact c4
  have g5 : W1.cell? ⟨b, 5, none⟩ = some (.bool st) := by rw [← hW1]; exact c5
  have k1 : W1.frozen? ⟨b, 1, none⟩ = false := by rw [← hW1]; exact f1
  have k2 : W1.frozen? ⟨b, 2, none⟩ = false := by rw [← hW1]; exact f2
  have k3 : W1.frozen? ⟨b, 3, none⟩ = false := by rw [← hW1]; exact f3
  have k4 : W1.frozen? ⟨b, 4, none⟩ = false := by rw [← hW1]; exact f4
  have k5 : W1.frozen? ⟨b, 5, none⟩ = false := by rw [← hW1]; exact f5
  have HH1 : Hid (LogAt W1 b u (.slice ao said.length cap) y s l st) := Lib.hid (by rw [← hW1]; exact HH.out)
  have HV1 : Hid (Fms P W1 (.slice ao said.length cap) said) := Lib.hid (by rw [← hW1]; exact HV.out)
  clear hW1 c0 c1 c2 c3 c4 c5 f1 f2 f3 f4 f5
  obtain ⟨z, hz⟩ : ∃ z, y.extract 0 p = z := ⟨_, rfl⟩
  obtain ⟨m, hm⟩ : ∃ m, whole (ls.map List.length) p = m := ⟨_, rfl⟩
  have HC := HC.out
  rw [hz, hm] at HC
  rw [hz]
  simp only [hm] at hlm ⊢
  obtain ⟨hl1, hl2, hl3, hl4⟩ := HC
  obtain ⟨t, ht⟩ : ∃ t, (ls.take m).flatten.length = t := ⟨_, rfl⟩
  rw [ht] at hl1 hl2 hl3 hl4
  have hzs : z.size ≤ y.size := by rw [← hz, ByteArray.size_extract]; omega
  have w3 : IntKind.i64.wrap (Lib.lastIndexByte z 10 + 1) = (t : Int) := by rw [hl1]; exact IntWalk.i64_in _ (by omega)
  have H3 := Lib.hid hl3
  have H4 := Lib.hid hl4
  have HZ := Lib.hid hz
  have HM := Lib.hid hm
  clear hl3 hl4 hz hm ht HC
  go_wp2_with fail
  refine (Tryz.strings_LastIndex_one z ⟨#[10]⟩ rfl (by omega) _).mono ?_
  rintro e w' ⟨rfl, rfl⟩
  rw [show ((((⟨#[10]⟩ : ByteArray)[0]'(by decide)).toNat : Nat) : Int) = 10 from rfl]
  have CK : Hid (∀ W : World, Calls Tryz.prog 107 #[.string (z.extract 0 t), .string ⟨#[10]⟩] W fun e w' => e = .returned (.int .i64 m) ∧ w' = W) := Lib.hid fun W => by
    have h := Tryz.strings_Count_one (z.extract 0 t) 10 W
    rw [H4.out] at h
    exact h
  have hcap : m ≤ cap := by
    rcases HV.out with ⟨h, h'⟩ | ⟨_, _, cap', h, h1, _⟩
    · rw [h', List.length_nil] at hn; omega
    · obtain ⟨-, -, h3⟩ := Value.slice.inj h
      omega
  have hms : m ≤ said.length := by omega
  have htz : (z.extract 0 t).size = t := by rw [ByteArray.size_extract]; omega
  go_wp2
  refine wp_region_still_tail 10 (by kernel_rfl) (by kernel_rfl) ?_
  simp only [List.take_succ_cons, List.take_zero, List.drop_succ_cons, List.drop_zero]
  repeat still_step
  still_call (CK.out _)
  repeat still_step
  refine wpStill_nil ?_
  go_wp2
  go_end0
  rw [HM.out]
  refine ⟨rfl, ?_, .slice ao m cap, z.extract 0 t, ?_, ?_, H3.out⟩
  · have q0 := gb_trans gg.out (gb_trans (gb_set _ b 1 (.slice ao m cap)) (gb_trans (gb_set _ b 2 (.string (z.extract 0 t))) (gb_trans (gb_set _ b 3 (.int .i64 t)) (gb_trans (gb_set _ b 4 (.int .i64 (-1))) (gb_set _ b 5 (.bool false))))))
    exact gb_trans q0 (gb_below (below_drewN (Below.refl _ _) 1))
  · have h := set_blk (i := 5) (set_blk (i := 4) (set_blk (i := 3) (set_blk (i := 2) (set_blk (i := 1) HH1.out (.slice ao m cap)) (.string (z.extract 0 t))) (.int .i64 t)) (.int .i64 (-1))) (.bool false)
    rw [htz]
    exact h
  · refine (HV1.out.take m hms).keep (by simp [World.setCell]) fun k _ hp => ?_
    have hkb := HP.out k hp
    exact (set_old _ (.bool false) hkb).trans ((set_old _ (.int .i64 (-1)) hkb).trans ((set_old _ (.int .i64 t) hkb).trans ((set_old _ (.string (z.extract 0 t)) hkb).trans (set_old _ (.slice ao m cap) hkb))))
end Go.Proofs.YtpfinfneclmjkaaGreatDoor
