/- Package term: the set that a term is. Conditions: the term and the world are right. -/
import Derived.Test.YtpfinfneclmjkaaGreatDoorOwn
import Derived.Test.YtpfinfneclmjkaaGreatDoorTerm2
namespace Go.Proofs.YtpfinfneclmjkaaGreatDoor
open Go.RowKit V

theorem of_still (what u a b : Int) (h0 : 0 ≤ u) (h6 : u ≤ 6) (ha : 0 ≤ a) (ha' : a < 64) (hb : 0 ≤ b) (hb' : b < 64) (w : World) :
    Calls Tryz.prog 186 #[.int .i64 what, .int .i64 u, .int .i64 a, .int .i64 b] w fun e w' => e = .returned (.int .i64 (ofSet what u a b)) ∧ w' = w :=
  (of_any what u a b h0 h6 ha ha' hb hb' w).mono fun _ _ ⟨h1, h2⟩ => ⟨h1, h2.symm⟩

theorem two_of {α : Type} {l : List α} (h : 2 ≤ l.length) : ∃ x y r, l = x :: y :: r := by
  match l, h with
  | x :: y :: r, _ => exact ⟨x, y, r, rfl⟩

set_option maxHeartbeats 1000000 in
set_option maxRecDepth 100000 in
theorem termSet_any {P : Nat → Prop} (v : Value) (t : List Int) (u a b c : Int) (w : World) (hv : Ints P w v t) (ht : termCheck t = 0) (hW : WdOk ⟨u, a, b, c⟩) :
    Calls Tryz.prog 128 #[v, .agg #[.int .i64 u, .int .i64 a, .int .i64 b, .int .i64 c]] w fun e w' => e = .returned (.int .i64 (termSet t ⟨u, a, b, c⟩)) ∧ Below w.heap.size w w' := by
  obtain ⟨hl0, hl12, hsg, hmany⟩ := termCheck_ok ht
  clear ht
  have HS := Lib.hid hsg
  have HM0 := Lib.hid hmany
  clear hsg hmany
  obtain ⟨b0, off, cp, rfl, h2, h3, _, h5, h6⟩ := hv.resolve_left (by rintro ⟨_, _, rfl⟩; simp at hl0)
  unfold maxLen at h3
  have H6 := Lib.hid h6
  clear h6
  have hu0 := hW.u0
  have hu6 := hW.u6
  simp only at hu0 hu6
  go_enter Tryz.func128, Tryz.ntmps128
  go_wp2
  go_loopw [5, 11] (fun v i wr => ∃ (k : Nat) (row : List Int) (ao : Option Addr) (cq : Nat), k ≤ t.length ∧ i = .int .i64 k ∧ v = .slice ao row.length cq ∧ OwnI (w.heap.size + 1) wr v row.reverse ∧ Bd row ∧ row.length ≤ k ∧ termMany row.length (t.drop k) = some 1 ∧
      (t.drop k).foldl (termStep ⟨u, a, b, c⟩) row = termRow ⟨u, a, b, c⟩ t ∧ Below (w.heap.size + 1) (w.alloc (.cells #[.int .i64 u, .int .i64 a, .int .i64 b, .int .i64 c] 34)) wr)
    (fun _ i _ => t.length - (intOf i).toNat)
  case atStart => exact ⟨0, [], none, 0, Nat.zero_le _, rfl, rfl, ownI_nil _ _, fun x hx => by simp at hx, by simp, HM0.out, rfl, Below.refl _ _⟩
  case round =>
    obtain ⟨k, row, ao, cq, hk, rfl, rfl, hown, hbd, hlen, hm, hf, hB⟩ := hrel
    have c0 : wr.cell? ⟨w.heap.size, 0, none⟩ = some (.int .i64 u) := (hB.cell (p := ⟨w.heap.size, 0, none⟩) (by simp)).trans (by simp)
    have c1 : wr.cell? ⟨w.heap.size, 1, none⟩ = some (.int .i64 a) := (hB.cell (p := ⟨w.heap.size, 1, none⟩) (by simp)).trans (by simp)
    have c2 : wr.cell? ⟨w.heap.size, 2, none⟩ = some (.int .i64 b) := (hB.cell (p := ⟨w.heap.size, 2, none⟩) (by simp)).trans (by simp)
    have c3 : wr.cell? ⟨w.heap.size, 3, none⟩ = some (.int .i64 c) := (hB.cell (p := ⟨w.heap.size, 3, none⟩) (by simp)).trans (by simp)
    have hsz : w.heap.size + 1 ≤ wr.heap.size := by have := hB.size; simpa using this
    by_cases hlt : k < t.length
    · have hc : wr.cell? ⟨b0, off + k, none⟩ = some (.int .i64 t[k]) := ((hB.cell (p := ⟨b0, off + k, none⟩) (by simp; omega)).trans (by rw [World.cell?_alloc_lt _ _ _ (by simpa using h5)]; exact H6.out k hlt))
      have hs := HS.out t[k] (List.getElem_mem hlt)
      rw [drop_cons _ _ hlt, termMany_cons] at hm
      rw [drop_cons _ _ hlt, List.foldl_cons] at hf
      have HF := Lib.hid hf
      have HB := Lib.hid hB
      have HO := Lib.hid hown
      have HD := Lib.hid hbd
      have HM := Lib.hid hm
      clear hf hB hown hbd hm
      obtain ⟨s, hse⟩ : ∃ s, s = t[k] := ⟨_, rfl⟩
      rw [← hse] at hc hs
      have HE := Lib.hid hse
      clear hse
      have hd : s = 0 ∨ s = 1 ∨ s = 2 ∨ s = 3 ∨ s = 4 ∨ s = 8 ∨ (5 ≤ s ∧ s ≤ 7) := by omega
      rw [← HE.out] at HF HM
      rcases hd with rfl | rfl | rfl | rfl | rfl | rfl | ⟨hs5, hs7⟩
      · go_wp2_with (at_builtin; refine app_int rfl (.tmp 40) (.tmp 45) rfl (w.heap.size + 1) row.reverse _ rfl (HO.out.alloc _) _ _ a rfl (by simp) (by simp; omega) (by simp; omega) ?_; intro g cap w1 hown1 hg hb1 hsz1 _)
        have HO1 := Lib.hid hown1
        have HB1 := Lib.hid hb1
        clear hown1 hb1
        go_roundw
        case rel => exact ⟨k + 1, a :: row, some ⟨g, 0, none⟩, cap, by omega, by go_num, by simp, by simpa using HO1.out, fun x hx => by
            rcases List.mem_cons.1 hx with rfl | hx
            · exact ⟨hW.a0, hW.a1⟩
            · exact HD.out x hx, by simp; omega, by have h := HM.out; rw [if_neg (by have h8 : takes 0 = 0 := rfl; rw [h8]; omega)] at h; exact h, HF.out, (HB.out.alloc hsz _).trans HB1.out⟩
        case measure => simp [intOf]; omega
      · go_wp2_with (at_builtin; refine app_int rfl (.tmp 40) (.tmp 45) rfl (w.heap.size + 1) row.reverse _ rfl (HO.out.alloc _) _ _ b rfl (by simp) (by simp; omega) (by simp; omega) ?_; intro g cap w1 hown1 hg hb1 hsz1 _)
        have HO1 := Lib.hid hown1
        have HB1 := Lib.hid hb1
        clear hown1 hb1
        go_roundw
        case rel => exact ⟨k + 1, b :: row, some ⟨g, 0, none⟩, cap, by omega, by go_num, by simp, by simpa using HO1.out, fun x hx => by
            rcases List.mem_cons.1 hx with rfl | hx
            · exact ⟨hW.b0, hW.b1⟩
            · exact HD.out x hx, by simp; omega, by have h := HM.out; rw [if_neg (by have h8 : takes 1 = 0 := rfl; rw [h8]; omega)] at h; exact h, HF.out, (HB.out.alloc hsz _).trans HB1.out⟩
        case measure => simp [intOf]; omega
      · go_wp2_with (at_builtin; refine app_int rfl (.tmp 40) (.tmp 45) rfl (w.heap.size + 1) row.reverse _ rfl (HO.out.alloc _) _ _ c rfl (by simp) (by simp; omega) (by simp; omega) ?_; intro g cap w1 hown1 hg hb1 hsz1 _)
        have HO1 := Lib.hid hown1
        have HB1 := Lib.hid hb1
        clear hown1 hb1
        go_roundw
        case rel => exact ⟨k + 1, c :: row, some ⟨g, 0, none⟩, cap, by omega, by go_num, by simp, by simpa using HO1.out, fun x hx => by
            rcases List.mem_cons.1 hx with rfl | hx
            · exact ⟨hW.c0, hW.c1⟩
            · exact HD.out x hx, by simp; omega, by have h := HM.out; rw [if_neg (by have h8 : takes 2 = 0 := rfl; rw [h8]; omega)] at h; exact h, HF.out, (HB.out.alloc hsz _).trans HB1.out⟩
        case measure => simp [intOf]; omega
      · go_wp2_with (at_builtin; refine app_int rfl (.tmp 50) (.tmp 51) rfl (w.heap.size + 1) row.reverse _ rfl (HO.out.alloc _) _ _ 0 rfl (by simp) (by simp; omega) (by simp; omega) ?_; intro g cap w1 hown1 hg hb1 hsz1 _)
        have HO1 := Lib.hid hown1
        have HB1 := Lib.hid hb1
        clear hown1 hb1
        go_roundw
        case rel => exact ⟨k + 1, 0 :: row, some ⟨g, 0, none⟩, cap, by omega, by go_num, by simp, by simpa using HO1.out, fun x hx => by
            rcases List.mem_cons.1 hx with rfl | hx
            · exact (by omega)
            · exact HD.out x hx, by simp; omega, by have h := HM.out; rw [if_neg (by have h8 : takes 3 = 0 := rfl; rw [h8]; omega)] at h; exact h, HF.out, (HB.out.alloc hsz _).trans HB1.out⟩
        case measure => simp [intOf]; omega
      · go_wp2_with (first | (go_at_call 185; refine (all_any _ (by omega) (by omega) _).mono ?_; rintro e w' ⟨rfl, rfl⟩) | (at_builtin; refine app_int rfl (.tmp 56) (.tmp 60) rfl (w.heap.size + 1) row.reverse _ rfl (HO.out.alloc _) _ _ (pow2 u - 1) rfl (by simp) (by simp; omega) (by simp; omega) ?_; intro g cap w1 hown1 hg hb1 hsz1 _))
        have HO1 := Lib.hid hown1
        have HB1 := Lib.hid hb1
        clear hown1 hb1
        go_roundw
        case rel => exact ⟨k + 1, (pow2 u - 1) :: row, some ⟨g, 0, none⟩, cap, by omega, by go_num, by simp, by simpa using HO1.out, fun x hx => by
            rcases List.mem_cons.1 hx with rfl | hx
            · exact (by have := pow2_bd hu0 hu6; omega)
            · exact HD.out x hx, by simp; omega, by have h := HM.out; rw [if_neg (by have h8 : takes 4 = 0 := rfl; rw [h8]; omega)] at h; exact h, HF.out, (HB.out.alloc hsz _).trans HB1.out⟩
        case measure => simp [intOf]; omega
      · cases row with
        | nil => have h := HM.out; rw [if_pos (by decide)] at h; cases h
        | cons x r =>
          obtain ⟨g, cap, hv, hgB, hg, hgl, hgm, hgc, hgf⟩ := (HO.out.form).resolve_left (by rintro ⟨_, h⟩; simp at h)
          injection hv with hv1 hv2 hv3
          subst hv1 hv3
          have hx : wr.cell? ⟨g, r.length, none⟩ = some (.int .i64 x) := by have h := hgc r.length (by simp); simpa using h
          have hxf := hgf r.length
          have hxb := HD.out x (by simp)
          simp only [List.length_cons] at *
          clear hgc hgf hv2
          have hlt2 : (r.length : Int) < (r.length : Int) + 1 := by omega
          have hwr : IntKind.i64.wrap (r.length : Int) = r.length := IntWalk.i64_in _ (by omega)
          go_wp2_with fail
          refine wp_region_still_tail 13 (by kernel_rfl) (by kernel_rfl) ?_
          simp only [List.take_succ_cons, List.take_zero, List.drop_succ_cons, List.drop_zero]
          repeat still_step
          still_call (of_still _ _ _ _ (by omega) (by omega) (by omega) (by omega) (by omega) (by omega) _)
          repeat still_step
          refine wpStill_nil ?_
          change wpList _ _ _ _ _ wr.drew
          go_wp2
          have HOS := Lib.hid (HO.out.set (i := r.length) (by simp) (ofSet 8 u x 0))
          have el : (x :: r).reverse.set r.length (ofSet 8 u x 0) = (ofSet 8 u x 0 :: r).reverse := by
            rw [List.reverse_cons, List.reverse_cons, List.set_append_right _ _ (by simp)]; simp
          have HEL := Lib.hid el
          clear el
          go_roundw
          case rel => exact ⟨k + 1, ofSet 8 u x 0 :: r, some ⟨g, 0, none⟩, _, by omega, by go_num, rfl, by have h := HOS.out; rw [HEL.out] at h; exact OwnI.drew h, fun z hz => by
              rcases List.mem_cons.1 hz with rfl | hz
              · exact ofSet_bd (by omega) (by omega) (by omega) (by omega) (by omega) (by omega)
              · exact HD.out z (by simp [hz]), by simp; omega, by have h := HM.out; rw [if_neg (by have h8 : takes 8 = 1 := rfl; rw [h8]; omega)] at h; rw [← h]; congr 1, HF.out, (HB.out.setCell (p := ⟨g, r.length, none⟩) hgB _).drew⟩
          case measure => simp [intOf]; omega
      · have ht2 : takes s = 2 := by unfold takes; rw [if_neg (by omega), if_pos hs5]
        have h2r : 2 ≤ row.length := by
          have hm := HM.out
          rw [ht2] at hm
          by_cases h : (row.length : Int) < 2
          · rw [if_pos h] at hm; cases hm
          · omega
        obtain ⟨x, y, r, rfl⟩ := two_of h2r
        clear h2r
        · skip
          obtain ⟨g, cap, hv, hgB, hg, hgl, hgm, hgc, hgf⟩ := (HO.out.form).resolve_left (by rintro ⟨_, h⟩; simp at h)
          injection hv with hv1 hv2 hv3
          subst hv1 hv3
          have hx : wr.cell? ⟨g, r.length + 1, none⟩ = some (.int .i64 x) := by have h := hgc (r.length + 1) (by simp); simpa using h
          have hy : wr.cell? ⟨g, r.length, none⟩ = some (.int .i64 y) := by have h := hgc r.length (by simp); simpa [List.getElem_append] using h
          have hxb := HD.out x (by simp)
          have hyb := HD.out y (by simp)
          simp only [List.length_cons] at *
          clear hgc hgf hv2
          have hwr : IntKind.i64.wrap (r.length : Int) = r.length := IntWalk.i64_in _ (by omega)
          have hwr1 : IntKind.i64.wrap ((r.length : Int) + 1) = (r.length : Int) + 1 := IntWalk.i64_in ((r.length : Int) + 1) (by omega)
          have hwr2 : IntKind.i64.wrap ((r.length : Int) + 1 + 1 - 2) = (r.length : Int) := by rw [show (r.length : Int) + 1 + 1 - 2 = r.length by omega]; exact hwr
          have hlt2 : (r.length : Int) < (r.length : Int) + 1 + 1 := by omega
          have hn1 : ((r.length : Int) + 1).toNat = r.length + 1 := by omega
          have hlt3 : (r.length : Int) < (r.length : Int) + 1 := by omega
          have h03 : 0 ≤ (r.length : Int) + 1 := by omega
          have hlt4 : (r.length : Int) + 1 < (r.length : Int) + 1 + 1 := by omega
          go_wp2_with fail
          have hsl0 : (0 : Int) ≤ (r.length : Int) := by omega
          have hsl1 : (r.length : Int) ≤ (cq : Int) := by simp only [List.length_reverse, List.length_cons] at hgl; omega
          have hpop : (x :: y :: r).reverse.take r.length = r.reverse := by simp
          have HP := Lib.hid (OwnI.pop (m := r.length) HO.out (by simp))
          go_region_law (first | (go_simp; go_at_call 186; refine (of_any _ _ _ _ (by omega) (by omega) (by omega) (by omega) (by omega) (by omega) _).mono ?_; rintro e w' ⟨rfl, rfl⟩) | (refine step_app_int (by rfl) (.tmp 20) (.tmp 35) (by rfl) (w.heap.size + 1) _ _ (by rfl) ((HP.out.alloc _).drew) _ _ (ofSet s u y x) (by rfl) (by simp) (by simp; omega) (by simp; omega) ?_; intro g' cap' w1 hown1 hg1 hb1 hsz1 _))
          all_goals
            have HO1 := Lib.hid hown1
            have HB1 := Lib.hid hb1
            clear hown1 hb1
            go_wp2
            go_roundw
            case rel => exact ⟨k + 1, ofSet s u y x :: r, some ⟨g', 0, none⟩, cap', by omega, by go_num, by simp, by have h := HO1.out; rw [hpop] at h; simpa using h, fun z hz => by
                rcases List.mem_cons.1 hz with rfl | hz
                · exact ofSet_bd (by omega) (by omega) (by omega) (by omega) (by omega) (by omega)
                · exact HD.out z (by simp [hz]), by simp; omega, by
                  have h := HM.out
                  rw [ht2, if_neg (by simp; omega)] at h
                  rw [← h]; congr 1; simp; omega, by
                  have h := HF.out
                  rw [show termStep ⟨u, a, b, c⟩ (x :: y :: r) s = ofSet s u y x :: r by unfold termStep; rw [if_neg (by omega), if_neg (by omega), if_neg (by omega), if_neg (by omega)]] at h
                  exact h, ((HB.out.alloc hsz _).drew).trans HB1.out⟩
            case measure => simp [intOf]; omega
    · have hkk : k = t.length := by omega
      rw [List.drop_eq_nil_of_le (by omega), termMany_nil] at hm
      rw [List.drop_eq_nil_of_le (by omega), List.foldl_nil] at hf
      obtain ⟨x, rfl⟩ : ∃ x, row = [x] := by
        have h1 : (row.length : Int) = 1 := by simpa using hm
        exact List.length_eq_one_iff.1 (by omega)
      obtain ⟨g, cap, hv, hgB, hg, hgl, hgm, hgc, hgf⟩ := (hown.form).resolve_left (by rintro ⟨_, h⟩; simp at h)
      injection hv with hv1 hv2 hv3
      subst hv1 hv3
      have hx : wr.cell? ⟨g, 0, none⟩ = some (.int .i64 x) := by have h := hgc 0 (by simp); simpa using h
      have HX := Lib.hid (show termSet t ⟨u, a, b, c⟩ = x by unfold termSet; rw [← hf]; rfl)
      have HB := Lib.hid hB
      simp only [List.length_cons, List.length_nil] at *
      clear hgc hgf hv2 hm hf hB hown hbd hkk
      go_wp2
      go_ret
      exact ⟨by rw [HX.out]; rfl, ((Below.refl w.heap.size w).alloc (Nat.le_refl _) _).trans (HB.out.mono (by omega))⟩
end Go.Proofs.YtpfinfneclmjkaaGreatDoor
