/- form.Takes, form.shape, form.Check. Conditions: the formula lies; the table of the kinds lies as its text lays it. -/
import Derived.Test.YtpfinfneclmjkaaGreatDoorAtomAny
import Derived.Test.YtpfinfneclmjkaaGreatDoorData
import Derived.Test.YtpfinfneclmjkaaGreatDoorGb
namespace Go.Proofs.YtpfinfneclmjkaaGreatDoor
open Go.RowKit V

theorem fTakes_any (s : Int) (w : World) : Calls Tryz.prog 116 #[.int .i64 s] w fun e w' => e = .returned (.tuple #[.int .i64 (fTakes s), .bool (fSign s)]) ∧ w = w' := by
  by_cases h12 : s = 12
  · subst h12
    go_enter Tryz.func116, Tryz.ntmps116
    go_wp2
    go_ret2
    exact ⟨rfl, rfl⟩
  have e12 : (s == 12) = false := by simpa using h12
  by_cases h10 : s = 10
  · subst h10
    go_enter Tryz.func116, Tryz.ntmps116
    go_wp2
    go_ret2
    exact ⟨rfl, rfl⟩
  have e10 : (s == 10) = false := by simpa using h10
  by_cases h11 : s = 11
  · subst h11
    go_enter Tryz.func116, Tryz.ntmps116
    go_wp2
    go_ret2
    exact ⟨rfl, rfl⟩
  have e11 : (s == 11) = false := by simpa using h11
  by_cases h13 : s = 13
  · subst h13
    go_enter Tryz.func116, Tryz.ntmps116
    go_wp2
    go_ret2
    exact ⟨rfl, rfl⟩
  have e13 : (s == 13) = false := by simpa using h13
  have H0 := Lib.hid (show fTakes s = 0 by simp [fTakes, h12, h10, h11, h13])
  by_cases h0 : 0 ≤ s
  · have H1 := Lib.hid (show fSign s = decide (s < 6) by simp [fSign, h12, h10, h11, h13, h0])
    clear h12 h10 h11 h13
    go_enter Tryz.func116, Tryz.ntmps116
    go_wp2
    go_ret2
    exact ⟨by rw [H0.out, H1.out]; rfl, rfl⟩
  · have H1 := Lib.hid (show fSign s = false by simp [fSign, h12, h10, h11, h13, h0])
    have d0 : decide (0 ≤ s) = false := by simpa using h0
    clear h12 h10 h11 h13
    go_enter Tryz.func116, Tryz.ntmps116
    go_wp2
    go_ret2
    exact ⟨by rw [H0.out, H1.out]; rfl, rfl⟩

set_option maxHeartbeats 400000 in
set_option maxRecDepth 100000 in
theorem shape_any {P : Nat → Prop} (v : Value) (t : List Int) (w : World) (hv : Ints P w v t) :
    Calls Tryz.prog 117 #[v] w fun e w' => e = .returned (.bool (formMany 0 t == some 1)) ∧ w = w' := by
  rcases hv with ⟨ao, rfl, rfl⟩ | ⟨b, off, c, rfl, h2, h3, _, h5, h6⟩
  · go_enter Tryz.func117, Tryz.ntmps117
    go_wp2
    go_loop [3, 10] (fun m i => i = .int .i64 0 ∧ m = .int .i64 0) (fun _ i => 0)
    case atStart => exact ⟨rfl, rfl⟩
    case round =>
      obtain ⟨rfl, rfl⟩ := hrel
      go_wp2
      go_ret
      exact ⟨rfl, rfl⟩
  · unfold maxLen at h3
    have H6 := Lib.hid h6
    clear h6
    go_enter Tryz.func117, Tryz.ntmps117
    go_wp2
    go_loop [3, 10] (fun m i => ∃ (k : Nat) (n : Int), k ≤ t.length ∧ i = .int .i64 k ∧ m = .int .i64 n ∧ 0 ≤ n ∧ n ≤ k ∧ formMany n (t.drop k) = formMany 0 t) (fun _ i => t.length - (intOf i).toNat)
    case atStart => exact ⟨0, 0, Nat.zero_le _, rfl, rfl, by omega, by omega, rfl⟩
    case round =>
      obtain ⟨k, n, hk, rfl, rfl, hn0, hnk, hm⟩ := hrel
      by_cases hlt : k < t.length
      · have hc := H6.out k hlt
        have hb := fTakes_bd t[k]
        rw [List.drop_eq_getElem_cons hlt, formMany_cons] at hm
        by_cases hs : n < fTakes t[k]
        · rw [if_pos hs] at hm
          have HX := Lib.hid hm
          clear hm
          go_wp2_with (go_at_call 116; refine (fTakes_any _ _).mono ?_; rintro e w' ⟨rfl, rfl⟩)
          go_ret
          exact ⟨by rw [← HX.out]; rfl, rfl⟩
        · rw [if_neg hs] at hm
          have HM := Lib.hid hm
          clear hm
          go_wp2_with (go_at_call 116; refine (fTakes_any _ _).mono ?_; rintro e w' ⟨rfl, rfl⟩)
          go_round
          case rel => exact ⟨k + 1, n + (1 - fTakes t[k]), by omega, by go_num, rfl, by omega, by omega, HM.out⟩
          case measure => simp [intOf]; omega
      · rw [List.drop_eq_nil_of_le (by omega), formMany_nil] at hm
        have HM := Lib.hid hm
        clear hm
        go_wp2
        go_ret
        exact ⟨by rw [← HM.out]; exact ret_bool (by rw [Bool.eq_iff_iff]; simp), rfl⟩

/-- one atom's value, loaded whole -/
theorem AtAt.form {P : Nat → Prop} {w : World} {b o : Nat} {a : At} (h : AtAt P w b o a) : ∃ s1 s2 t1 t2, w.cell? ⟨b, o, none⟩ = some (.int .i64 a.what) ∧ w.cell? ⟨b, o + 1, none⟩ = some (.slice s1 a.s.length s2) ∧ Ints P w (.slice s1 a.s.length s2) a.s ∧ w.cell? ⟨b, o + 2, none⟩ = some (.slice t1 a.t.length t2) ∧ Ints P w (.slice t1 a.t.length t2) a.t ∧ w.cell? ⟨b, o + 3, none⟩ = some (.int .i64 a.n) := by
  obtain ⟨vs, vt, h1, h2, h3, h4, h5, h6⟩ := h
  obtain ⟨s1, s2, rfl⟩ := h3.form
  obtain ⟨t1, t2, rfl⟩ := h5.form
  exact ⟨s1, s2, t1, t2, h1, h2, h3, h4, h5, h6⟩
theorem atomsFault_at : ∀ (l : List At) (k : Nat) (hk : k < l.length), (∀ j (h : j < k), atomCheck (l[j]'(by omega)) = 0) → atomCheck l[k] ≠ 0 → atomsFault l = atomCheck l[k]
  | x :: r, 0, _, _, hc => by simp only [List.getElem_cons_zero] at hc ⊢; unfold atomsFault; rw [if_pos hc]
  | x :: r, k + 1, hk, h, hc => by
    have h0 : atomCheck x = 0 := h 0 (by omega)
    unfold atomsFault
    rw [if_neg (by simpa using h0)]
    exact atomsFault_at r k (by simpa using hk) (fun j hj => h (j + 1) (by omega)) hc
theorem atomsFault_none : ∀ (l : List At), (∀ j (h : j < l.length), atomCheck l[j] = 0) → atomsFault l = 0
  | [], _ => rfl
  | x :: r, h => by
    have h0 : atomCheck x = 0 := h 0 (by simp)
    unfold atomsFault
    rw [if_neg (by simpa using h0)]
    exact atomsFault_none r fun j hj => h (j + 1) (by simpa using hj)

set_option maxHeartbeats 4000000 in
set_option maxRecDepth 100000 in
theorem formCheck_any {P : Nat → Prop} (va vc : Value) (f : Fm) (w : World) (hf : FmV P w va vc f) (hk : Kinds w) :
    Calls Tryz.prog 46 #[.agg #[va, vc]] w fun e w' => e = .returned (errV (formCheck f)) ∧ Below w.heap.size w w' := by
  obtain ⟨hA, hC⟩ := hf
  obtain ⟨ao, acap, rfl⟩ := hA.form
  obtain ⟨co, ccap, rfl⟩ := hC.form
  have hml : f.atoms.length ≤ 9223372036854775807 ∧ f.code.length ≤ 9223372036854775807 := by
    refine ⟨?_, ?_⟩
    · rcases hA with ⟨_, _, h⟩ | ⟨_, _, _, h, h1, h2, _⟩
      · rw [h]; simp
      · unfold maxLen at h2; omega
    · rcases hC with ⟨_, _, h⟩ | ⟨_, _, _, h, h1, h2, _⟩
      · rw [h]; simp
      · unfold maxLen at h2; omega
  obtain ⟨hm1, hm2⟩ := hml
  have HA := Lib.hid hA
  have HC := Lib.hid hC
  have HK := Lib.hid hk
  clear hA hC hk
  by_cases h0 : f.atoms.length = 0
  · have e0 : ((f.atoms.length : Int) == 0) = true := by simpa using h0
    have HX := Lib.hid (show formCheck f = 5 by unfold formCheck; rw [if_pos (.inl h0)])
    clear h0
    go_enter Tryz.func46, Tryz.ntmps46
    go_wp2
    go_ret
    exact ⟨by rw [HX.out]; rfl, (Below.refl _ _).alloc (Nat.le_refl _) _⟩
  have e0 : ((f.atoms.length : Int) == 0) = false := by simpa using h0
  by_cases h1 : f.code.length = 0
  · have e1 : ((f.code.length : Int) == 0) = true := by simpa using h1
    have HX := Lib.hid (show formCheck f = 5 by unfold formCheck; rw [if_pos (.inr h1)])
    clear h0 h1
    go_enter Tryz.func46, Tryz.ntmps46
    go_wp2
    go_ret
    exact ⟨by rw [HX.out]; rfl, (Below.refl _ _).alloc (Nat.le_refl _) _⟩
  have e1 : ((f.code.length : Int) == 0) = false := by simpa using h1
  by_cases h6 : 6 < f.atoms.length
  · have d6 : decide ((6 : Int) < (f.atoms.length : Int)) = true := by simp; omega
    have HX := Lib.hid (show formCheck f = 4 by unfold formCheck; rw [if_neg (by omega), if_pos (.inl h6)])
    clear h0 h1 h6
    go_enter Tryz.func46, Tryz.ntmps46
    go_wp2
    go_ret
    exact ⟨by rw [HX.out]; rfl, (Below.refl _ _).alloc (Nat.le_refl _) _⟩
  have d6 : decide ((6 : Int) < (f.atoms.length : Int)) = false := by simp; omega
  by_cases h20 : 20 < f.code.length
  · have d20 : decide ((20 : Int) < (f.code.length : Int)) = true := by simp; omega
    have HX := Lib.hid (show formCheck f = 4 by unfold formCheck; rw [if_neg (by omega), if_pos (.inr h20)])
    clear h0 h1 h6 h20
    go_enter Tryz.func46, Tryz.ntmps46
    go_wp2
    go_ret
    exact ⟨by rw [HX.out]; rfl, (Below.refl _ _).alloc (Nat.le_refl _) _⟩
  have d20 : decide ((20 : Int) < (f.code.length : Int)) = false := by simp; omega
  have HX0 : Hid (formCheck f = if atomsFault f.atoms ≠ 0 then atomsFault f.atoms else if f.code.any (codeBad f.atoms.length) then 1 else if formMany 0 f.code = some 1 then 0 else 3) := Lib.hid (by
    unfold formCheck; rw [if_neg (by omega), if_neg (by omega)])
  clear h0 h1 h20 h6
  go_enter Tryz.func46, Tryz.ntmps46
  go_wp2
  go_loopw [37] (fun i wr => ∃ k : Nat, k ≤ f.atoms.length ∧ i = .int .i64 k ∧ Below w.heap.size w wr ∧ wr.heap[w.heap.size]? = some (.cells #[.slice ao f.atoms.length acap, .slice co f.code.length ccap] 25 (0, 0)) ∧ ∀ j (h : j < f.atoms.length), j < k → atomCheck f.atoms[j] = 0) (fun i _ => f.atoms.length - (intOf i).toNat)
  case atStart => exact ⟨0, Nat.zero_le _, rfl, (Below.refl _ _).alloc (Nat.le_refl _) _, blk_new _ _ _ rfl, fun j _ h => by omega⟩
  case round =>
    obtain ⟨k, hk, rfl, hB, hbx, hz⟩ := hrel
    by_cases hlt : k < f.atoms.length
    · rcases HA.out with ⟨_, _, h0⟩ | ⟨bs, off, cap', hv, v2, v3, v4, v5, v6⟩
      · rw [h0] at hlt; simp at hlt
      · injection hv with i1 i2 i3
        subst i1
        subst i3
        obtain ⟨s1, s2, t1, t2, x0, x1, x2, x3, x4, x5⟩ := (v6 k hlt).form
        have y0 := (hB.cell (p := ⟨bs, off + k * 4, none⟩) v5).trans x0
        have y1 := (hB.cell (p := ⟨bs, off + k * 4 + 1, none⟩) v5).trans x1
        have y2 := (hB.cell (p := ⟨bs, off + k * 4 + 2, none⟩) v5).trans x3
        have y3 := (hB.cell (p := ⟨bs, off + k * 4 + 3, none⟩) v5).trans x5
        have HCk := Lib.hid (fun o => atomCheck_any (P := P) (.slice s1 f.atoms[k].s.length s2) (.slice t1 f.atoms[k].t.length t2) f.atoms[k].what f.atoms[k].s f.atoms[k].t f.atoms[k].n (wr.alloc o) ((x2.below hB).alloc o) ((x4.below hB).alloc o) ((HK.out.keep hB).keep ((Below.refl _ _).alloc (Nat.le_refl _) _)))
        have hzr := hB.size
        have hwl : w.heap.size < wr.heap.size := (Array.getElem?_eq_some_iff.1 hbx).1
        have HB := Lib.hid hB
        have HBX := Lib.hid hbx
        have HZ := Lib.hid hz
        clear hB hbx hz x0 x1 x2 x3 x4 x5 v6
        go_wp2_with fail
        refine (HCk.out _).mono ?_
        obtain ⟨c, hc⟩ : ∃ c, atomCheck f.atoms[k] = c := ⟨_, rfl⟩
        have hc' : atomCheck ⟨f.atoms[k].what, f.atoms[k].s, f.atoms[k].t, f.atoms[k].n⟩ = c := hc
        rw [hc']
        rintro e w1 ⟨rfl, hb1⟩
        have HB1 := Lib.hid (HB.out.trans (((Below.refl wr.heap.size wr).alloc (Nat.le_refl _) _).trans (hb1.mono (by simp)) |>.mono HB.out.size))
        have HBX1 := Lib.hid ((hb1.block w.heap.size (by simp; omega)).trans ((blk_old _ _ _ hwl).trans HBX.out))
        have HCC := Lib.hid hc
        clear hb1 hc hc'
        by_cases h0 : c = 0
        · subst h0
          rw [errV_zero]
          go_wp2
          go_roundw
          case rel => exact ⟨k + 1, by omega, by go_num, HB1.out, HBX1.out, fun j hj h => by
            by_cases hjk : j = k
            · subst hjk; exact HCC.out
            · exact HZ.out j hj (by omega)⟩
          case measure => simp [intOf]; omega
        · rw [errV_ne h0]
          have HN := Lib.hid h0
          have HX := Lib.hid (show formCheck f = c by
            have := atomsFault_at f.atoms k hlt (fun j hj => HZ.out j (by omega) hj) (by rw [HCC.out]; exact HN.out)
            rw [HX0.out, this, HCC.out, if_pos HN.out])
          clear h0
          go_wp2
          go_ret
          exact ⟨by rw [HX.out, errV_ne HN.out]; rfl, HB1.out⟩
    · have hk2 : k = f.atoms.length := by omega
      subst hk2
      have HF := Lib.hid (atomsFault_none f.atoms fun j hj => hz j hj hj)
      have HX1 : Hid (formCheck f = if f.code.any (codeBad f.atoms.length) then 1 else if formMany 0 f.code = some 1 then 0 else 3) := Lib.hid (by rw [HX0.out, HF.out]; simp)
      have b0 : wr.cell? ⟨w.heap.size, 0, none⟩ = some (.slice ao f.atoms.length acap) := cell_blk hbx rfl
      have b1 : wr.cell? ⟨w.heap.size, 1, none⟩ = some (.slice co f.code.length ccap) := cell_blk hbx rfl
      have HCw := Lib.hid (HC.out.below hB)
      have HB := Lib.hid hB
      clear hB hbx hz HX0
      obtain ⟨W, hW⟩ : ∃ W, W = wr := ⟨_, rfl⟩
      subst hW
      go_wp2
      go_loop [50] (fun i => ∃ k : Nat, k ≤ f.code.length ∧ i = .int .i64 k ∧ ∀ j (h : j < f.code.length), j < k → codeBad f.atoms.length f.code[j] = false) (fun i => f.code.length - (intOf i).toNat)
      case atStart => exact ⟨0, Nat.zero_le _, rfl, fun j _ h => by omega⟩
      case round =>
        obtain ⟨k, hk, rfl, hz⟩ := hrel
        by_cases hlt : k < f.code.length
        · rcases HCw.out with ⟨_, _, h0⟩ | ⟨bs, off, cap', hv, v2, v3, v4, v5, v6⟩
          · rw [h0] at hlt; simp at hlt
          · injection hv with i1 i2 i3
            subst i1
            subst i3
            have y0 := v6 k hlt
            have hmem : f.code[k] ∈ f.code := List.getElem_mem hlt
            have HM := Lib.hid hmem
            have HZ := Lib.hid hz
            obtain ⟨c, hc⟩ : ∃ c, f.code[k] = c := ⟨_, rfl⟩
            rw [hc] at y0
            have HCC := Lib.hid hc
            clear hc hz hmem v6
            obtain ⟨sg, hsg⟩ : ∃ sg, fSign c = sg := ⟨_, rfl⟩
            obtain ⟨tk, htk⟩ : ∃ tk, fTakes c = tk := ⟨_, rfl⟩
            have HTk := Lib.hid (show Calls Tryz.prog 116 #[.int .i64 c] W fun e w' => e = .returned (.tuple #[.int .i64 tk, .bool sg]) ∧ W = w' by rw [← hsg, ← htk]; exact fTakes_any c W)
            have HSG := Lib.hid hsg
            have HTK := Lib.hid htk
            clear hsg htk
            cases sg
            · have HX := Lib.hid (show formCheck f = 1 by
                rw [HX1.out, if_pos]; exact List.any_eq_true.2 ⟨_, HM.out, by rw [HCC.out]; simp [codeBad, HSG.out]⟩)
              go_wp2_with fail
              refine HTk.out.mono ?_
              rintro e w' ⟨rfl, rfl⟩
              go_wp2
              go_ret
              exact ⟨by rw [HX.out]; rfl, HB.out⟩
            · by_cases ht : tk = 0
              · have et : (tk == 0) = true := by simpa using ht
                have HT0 := Lib.hid ht
                clear ht
                by_cases hge : (f.atoms.length : Int) ≤ c
                · have dge : decide ((f.atoms.length : Int) ≤ c) = true := by simpa using hge
                  have HX := Lib.hid (show formCheck f = 1 by
                    rw [HX1.out, if_pos]; exact List.any_eq_true.2 ⟨_, HM.out, by rw [HCC.out]; simp [codeBad, HSG.out, HTK.out, HT0.out]; exact hge⟩)
                  clear hge
                  go_wp2_with fail
                  refine HTk.out.mono ?_
                  rintro e w' ⟨rfl, rfl⟩
                  go_wp2
                  go_ret
                  exact ⟨by rw [HX.out]; rfl, HB.out⟩
                · have dge : decide ((f.atoms.length : Int) ≤ c) = false := by simpa using hge
                  have HG := Lib.hid (show codeBad f.atoms.length c = false by simp [codeBad, HSG.out]; intro _; omega)
                  clear hge
                  go_wp2_with fail
                  refine HTk.out.mono ?_
                  rintro e w' ⟨rfl, rfl⟩
                  go_wp2
                  go_round
                  case rel => exact ⟨k + 1, by omega, by go_num, fun j hj h => by
                    by_cases hjk : j = k
                    · subst hjk; rw [HCC.out]; exact HG.out
                    · exact HZ.out j hj (by omega)⟩
                  case measure => simp [intOf]; omega
              · have et : (tk == 0) = false := by simpa using ht
                have HG := Lib.hid (show codeBad f.atoms.length c = false by simp [codeBad, HSG.out]; intro h; rw [HTK.out] at h; exact absurd h ht)
                clear ht
                go_wp2_with fail
                refine HTk.out.mono ?_
                rintro e w' ⟨rfl, rfl⟩
                go_wp2
                go_round
                case rel => exact ⟨k + 1, by omega, by go_num, fun j hj h => by
                  by_cases hjk : j = k
                  · subst hjk; rw [HCC.out]; exact HG.out
                  · exact HZ.out j hj (by omega)⟩
                case measure => simp [intOf]; omega
        · have hk2 : k = f.code.length := by omega
          subst hk2
          have HX2 : Hid (formCheck f = if formMany 0 f.code = some 1 then 0 else 3) := Lib.hid (by
            rw [HX1.out, if_neg]
            rw [Bool.not_eq_true, List.any_eq_false]
            intro c hc
            obtain ⟨j, hj, rfl⟩ := List.getElem_of_mem hc
            rw [hz j hj hj]; simp)
          have HS := Lib.hid (shape_any _ _ W HCw.out)
          obtain ⟨sh, hsh⟩ : ∃ sh, (formMany 0 f.code == some 1) = sh := ⟨_, rfl⟩
          rw [hsh] at HS
          have HSH := Lib.hid hsh
          clear hz hsh
          cases sh
          · have HX := Lib.hid (show formCheck f = 3 by rw [HX2.out, if_neg]; intro h; have := HSH.out; rw [h] at this; simp at this)
            go_wp2_with fail
            refine HS.out.mono ?_
            rintro e w' ⟨rfl, rfl⟩
            go_wp2
            go_ret
            exact ⟨by rw [HX.out]; rfl, HB.out⟩
          · have HX := Lib.hid (show formCheck f = 0 by rw [HX2.out, if_pos]; simpa using HSH.out)
            go_wp2_with fail
            refine HS.out.mono ?_
            rintro e w' ⟨rfl, rfl⟩
            go_wp2
            go_ret
            exact ⟨by rw [HX.out]; rfl, HB.out⟩
end Go.Proofs.YtpfinfneclmjkaaGreatDoor
