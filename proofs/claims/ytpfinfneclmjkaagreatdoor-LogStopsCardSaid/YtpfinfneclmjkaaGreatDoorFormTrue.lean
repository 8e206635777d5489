/- Package form: whether a formula holds in a world. Conditions: both are right; the table of the kinds lies as its text lays it. -/
import Derived.Test.YtpfinfneclmjkaaGreatDoorData
import Derived.Test.YtpfinfneclmjkaaGreatDoorOwnB
import Derived.Test.YtpfinfneclmjkaaGreatDoorAtomTrue
namespace Go.Proofs.YtpfinfneclmjkaaGreatDoor
open Go.RowKit V

set_option maxHeartbeats 4000000 in
set_option maxRecDepth 100000 in
theorem formTrue_any {P : Nat → Prop} (va vc : Value) (f : Fm) (u a b c : Int) (w : World) (hf : FmV P w va vc f) (hk : Kinds w) (hF : formCheck f = 0) (hW : WdOk ⟨u, a, b, c⟩) :
    Calls Tryz.prog 94 #[.agg #[va, vc], .agg #[.int .i64 u, .int .i64 a, .int .i64 b, .int .i64 c]] w fun e w' => e = .returned (.bool (formTrue f ⟨u, a, b, c⟩)) ∧ Below w.heap.size w w' := by
  have hF' := formCheck_ok hF
  have hc0 := hF'.c0
  have hc20 := hF'.c20
  have ha0 := hF'.a0
  have ha6 := hF'.a6
  have HS := Lib.hid hF'.sg
  have HA0 := Lib.hid hF'.at0
  have HMM := Lib.hid hF'.many
  have hg := hk.size
  have HK := Lib.hid hk
  obtain ⟨b0, off, cp, rfl, h2, h3, hP0, h5, h6⟩ := hf.2.resolve_left (by rintro ⟨_, _, h⟩; simp [h] at hc0)
  obtain ⟨b1, of1, cp1, rfl, g2, g3, hP1, g5, g6⟩ := hf.1.resolve_left (by rintro ⟨_, _, h⟩; simp [h] at ha0)
  have HFV := Lib.hid hf
  have H6 := Lib.hid h6
  have G6 := Lib.hid g6
  unfold maxLen at h3 g3
  clear hF hF' hk h6 g6 hf
  go_enter Tryz.func94, Tryz.ntmps94
  go_wp2
  go_loopw [5, 12] (fun v i wr => ∃ (k : Nat) (row : List Bool) (ao : Option Addr) (cq : Nat), k ≤ f.code.length ∧ i = .int .i64 k ∧ v = .slice ao row.length cq ∧ OwnB (w.heap.size + 2) wr v row.reverse ∧ row.length ≤ k ∧ formMany row.length (f.code.drop k) = some 1 ∧
      (f.code.drop k).foldl (fStep (fVal f ⟨u, a, b, c⟩)) row = f.code.foldl (fStep (fVal f ⟨u, a, b, c⟩)) [] ∧
      Below (w.heap.size + 2) ((w.alloc (.cells #[.slice (some ⟨b1, of1, none⟩) f.atoms.length cp1, .slice (some ⟨b0, off, none⟩) f.code.length cp] 25)).alloc (.cells #[.int .i64 u, .int .i64 a, .int .i64 b, .int .i64 c] 34)) wr)
    (fun _ i _ => f.code.length - (intOf i).toNat)
  case atStart => exact ⟨0, [], none, 0, Nat.zero_le _, rfl, rfl, ownB_nil _ _, by simp, HMM.out, rfl, Below.refl _ _⟩
  case round =>
    obtain ⟨k, row, ao, cq, hk, rfl, rfl, hown, hlen, hm, hfo, hB⟩ := hrel
    have p0 : wr.cell? ⟨w.heap.size, 0, none⟩ = some (.slice (some ⟨b1, of1, none⟩) f.atoms.length cp1) := (hB.cell (p := ⟨w.heap.size, 0, none⟩) (by simp)).trans (by rw [World.cell?_alloc_lt _ _ _ (by simp)]; simp)
    have c0 : wr.cell? ⟨w.heap.size + 1, 0, none⟩ = some (.int .i64 u) := (hB.cell (p := ⟨w.heap.size + 1, 0, none⟩) (by simp)).trans (by rw [World.cell?_alloc_at _ _ _ _ (by simp)]; rfl)
    have c1 : wr.cell? ⟨w.heap.size + 1, 1, none⟩ = some (.int .i64 a) := (hB.cell (p := ⟨w.heap.size + 1, 1, none⟩) (by simp)).trans (by rw [World.cell?_alloc_at _ _ _ _ (by simp)]; rfl)
    have c2 : wr.cell? ⟨w.heap.size + 1, 2, none⟩ = some (.int .i64 b) := (hB.cell (p := ⟨w.heap.size + 1, 2, none⟩) (by simp)).trans (by rw [World.cell?_alloc_at _ _ _ _ (by simp)]; rfl)
    have c3 : wr.cell? ⟨w.heap.size + 1, 3, none⟩ = some (.int .i64 c) := (hB.cell (p := ⟨w.heap.size + 1, 3, none⟩) (by simp)).trans (by rw [World.cell?_alloc_at _ _ _ _ (by simp)]; rfl)
    have hsz : w.heap.size + 2 ≤ wr.heap.size := by have := hB.size; simpa using this
    have hB0 : Below w.heap.size w wr := (((Below.refl w.heap.size w).alloc (Nat.le_refl _) _).alloc (by simp) _).trans (hB.mono (by omega))
    by_cases hlt : k < f.code.length
    · have hc : wr.cell? ⟨b0, off + k, none⟩ = some (.int .i64 f.code[k]) := (hB0.cell (p := ⟨b0, off + k, none⟩) h5).trans (H6.out k hlt)
      have hs := HS.out f.code[k] (List.getElem_mem hlt)
      rw [drop_cons _ _ hlt, formMany_cons] at hm
      rw [drop_cons _ _ hlt, List.foldl_cons] at hfo
      have HF := Lib.hid hfo
      have HB := Lib.hid hB
      have HB0 := Lib.hid hB0
      have HO := Lib.hid hown
      have HM := Lib.hid hm
      clear hfo hB hown hm hB0
      obtain ⟨s, hse⟩ : ∃ s, s = f.code[k] := ⟨_, rfl⟩
      rw [← hse] at hc hs
      have HE := Lib.hid hse
      rw [← hse] at HF HM
      clear hse
      rcases hs with rfl | rfl | rfl | rfl | ⟨hs0, hs1⟩
      · cases row with
        | nil => have h := HM.out; rw [if_pos (by decide)] at h; cases h
        | cons x r =>
          obtain ⟨g, cap, hv, hgB, hg, hgl, hgm, hgc, hgf⟩ := (HO.out.form).resolve_left (by rintro ⟨_, h⟩; simp at h)
          injection hv with hv1 hv2 hv3
          subst hv1 hv3
          have hx : wr.cell? ⟨g, r.length, none⟩ = some (.bool x) := by have h := hgc r.length (by simp); simpa using h
          have hxf := hgf r.length
          simp only [List.length_cons] at *
          clear hgc hgf hv2
          go_wp2
          have HOS := Lib.hid (HO.out.set (i := r.length) (by simp) (!x))
          have HEL := Lib.hid (show (x :: r).reverse.set r.length (!x) = ((!x) :: r).reverse by
            rw [List.reverse_cons, List.reverse_cons, List.set_append_right _ _ (by simp)]; simp)
          go_roundw
          case rel => exact ⟨k + 1, (!x) :: r, some ⟨g, 0, none⟩, _, by omega, by go_num, rfl, by have h := HOS.out; rw [HEL.out] at h; exact h, by simp; omega, by
              have h := HM.out; rw [if_neg (by have h8 : fTakes 12 = 1 := rfl; rw [h8]; omega)] at h; rw [← h]; congr 1, HF.out, HB.out.setCell (p := ⟨g, r.length, none⟩) hgB _⟩
          case measure => simp [intOf]; omega
      · have h2r : 2 ≤ row.length := by
          have hm := HM.out
          rw [show fTakes 10 = 2 from rfl] at hm
          by_cases h : (row.length : Int) < 2
          · rw [if_pos h] at hm; cases hm
          · omega
        obtain ⟨x, y, r, rfl⟩ := two_of h2r
        clear h2r
        obtain ⟨g, cap, hv, hgB, hg, hgl, hgm, hgc, hgf⟩ := (HO.out.form).resolve_left (by rintro ⟨_, h⟩; simp at h)
        injection hv with hv1 hv2 hv3
        subst hv1 hv3
        have hx : wr.cell? ⟨g, r.length + 1, none⟩ = some (.bool x) := by have h := hgc (r.length + 1) (by simp); simpa using h
        have hy : wr.cell? ⟨g, r.length, none⟩ = some (.bool y) := by have h := hgc r.length (by simp); simpa [List.getElem_append] using h
        simp only [List.length_cons] at *
        clear hgc hgf hv2
        have hwr : IntKind.i64.wrap (r.length : Int) = r.length := IntWalk.i64_in _ (by omega)
        have hwr1 : IntKind.i64.wrap ((r.length : Int) + 1) = (r.length : Int) + 1 := IntWalk.i64_in ((r.length : Int) + 1) (by omega)
        have hwr2 : IntKind.i64.wrap ((r.length : Int) + 1 + 1 - 2) = (r.length : Int) := by rw [show (r.length : Int) + 1 + 1 - 2 = r.length by omega]; exact hwr
        have hlt2 : (r.length : Int) < (r.length : Int) + 1 + 1 := by omega
        have hn1 : ((r.length : Int) + 1).toNat = r.length + 1 := by omega
        have hlt3 : (r.length : Int) < (r.length : Int) + 1 := by omega
        have h03 : 0 ≤ (r.length : Int) + 1 := by omega
        have hlt4 : (r.length : Int) + 1 < (r.length : Int) + 1 + 1 := by omega
        have hsl0 : (0 : Int) ≤ (r.length : Int) := by omega
        have hsl1 : (r.length : Int) ≤ (cq : Int) := by simp only [List.length_reverse, List.length_cons] at hgl; omega
        have hpop : (x :: y :: r).reverse.take r.length = r.reverse := by simp
        have HP := Lib.hid (OwnB.pop (m := r.length) HO.out (by simp))
        obtain ⟨z, hz⟩ : ∃ z, z = (y && x) := ⟨_, rfl⟩
        have HZ := Lib.hid hz
        clear hz
        cases y
        · go_wp2_with fail
          refine wp_region_any (by kernel_rfl) ?_
          try (change wpAny _ _ _ _ _ _ _ (World.drew _))
          refine wpAny_take (i := 0) (v := ?_) rfl (by kernel_rfl) (by kernel_rfl) (by kernel_rfl) (fun _ _ _ h => h) (Or.inl ⟨by rfl, ?_⟩) ?_
          rotate_left
          · (intro w; go_simp; try with_reducible rfl)
          refine wpAny_take (i := 1) (v := ?_) rfl (by kernel_rfl) (by kernel_rfl) (by kernel_rfl) (fun _ _ _ h => h) (Or.inl ⟨by rfl, ?_⟩) ?_
          rotate_left
          · (intro w; go_simp; try with_reducible rfl)
          refine wpAny_take (i := 2) (v := ?_) rfl (by kernel_rfl) (by kernel_rfl) (by kernel_rfl) (fun _ _ _ h => h) (Or.inl ⟨by rfl, ?_⟩) ?_
          rotate_left
          · (intro w; go_simp; try with_reducible rfl)
          refine wpAny_take (i := 3) (v := ?_) rfl (by kernel_rfl) (by kernel_rfl) (by kernel_rfl) (fun _ _ _ h => h) (Or.inl ⟨by rfl, ?_⟩) ?_
          rotate_left
          · (intro w; go_simp; try with_reducible rfl)
          refine wpAny_take (i := 4) (v := ?_) rfl (by kernel_rfl) (by kernel_rfl) (by kernel_rfl) (fun _ _ _ h => h) (Or.inl ⟨by rfl, ?_⟩) ?_
          rotate_left
          · (intro w; go_simp; try with_reducible rfl)
          refine wpAny_take (i := 5) (v := ?_) rfl (by kernel_rfl) (by kernel_rfl) (by kernel_rfl) (fun _ _ _ h => h) (Or.inl ⟨by rfl, ?_⟩) ?_
          rotate_left
          · (intro w; go_simp; try with_reducible rfl)
          refine wpAny_take (i := 6) (v := ?_) rfl (by kernel_rfl) (by kernel_rfl) (by kernel_rfl) (fun _ _ _ h => h) (Or.inl ⟨by rfl, ?_⟩) ?_
          rotate_left
          · (intro w; go_simp; try with_reducible rfl)
          refine wpAny_take (i := 7) (v := ?_) rfl (by kernel_rfl) (by kernel_rfl) (by kernel_rfl) (fun _ _ _ h => h) (Or.inl ⟨by rfl, ?_⟩) ?_
          rotate_left
          · (intro w; go_simp; try with_reducible rfl)
          refine wpAny_ready (rs := [8]) (by kernel_rfl) (by simp) ?_
          refine AllReady.cons rfl (fun K hK => ?_) AllReady.nil
          go_simp
          refine hK _ _ ?_; clear hK K
          refine wpAny_take (i := 9) (v := ?_) rfl (by kernel_rfl) (by kernel_rfl) (by kernel_rfl) (fun _ _ _ h => h) (Or.inl ⟨by rfl, ?_⟩) ?_
          rotate_left
          · (intro w; go_simp; try with_reducible rfl)
          refine wpAny_take (i := 10) (v := undef) rfl (by kernel_rfl) (by kernel_rfl) (by kernel_rfl) (fun _ _ _ h => h) (Or.inr ⟨by rfl, rfl⟩) ?_
          refine wpAny_take (i := 11) (v := undef) rfl (by kernel_rfl) (by kernel_rfl) (by kernel_rfl) (fun _ _ _ h => h) (Or.inr ⟨by rfl, rfl⟩) ?_
          refine wpAny_take (i := 12) (v := undef) rfl (by kernel_rfl) (by kernel_rfl) (by kernel_rfl) (fun _ _ _ h => h) (Or.inr ⟨by rfl, rfl⟩) ?_
          refine wpAny_take (i := 13) (v := undef) rfl (by kernel_rfl) (by kernel_rfl) (by kernel_rfl) (fun _ _ _ h => h) (Or.inr ⟨by rfl, rfl⟩) ?_
          refine wpAny_take (i := 14) (v := undef) rfl (by kernel_rfl) (by kernel_rfl) (by kernel_rfl) (fun _ _ _ h => h) (Or.inr ⟨by rfl, rfl⟩) ?_
          refine wpAny_take (i := 15) (v := ?_) rfl (by kernel_rfl) (by kernel_rfl) (by kernel_rfl) (fun _ _ _ h => h) (Or.inl ⟨by rfl, ?_⟩) ?_
          rotate_left
          · (intro w; go_simp; try with_reducible rfl)
          refine wpAny_ready (rs := [16]) (by kernel_rfl) (by simp) ?_
          refine AllReady.cons rfl (fun K hK => ?_) AllReady.nil
          go_simp
          refine hK _ _ ?_; clear hK K
          refine wpAny_ready (rs := [17]) (by kernel_rfl) (by simp) ?_
          refine AllReady.cons rfl (fun K hK => ?_) AllReady.nil
          (refine step_app_bool (by rfl) (.tmp 46) (.tmp 59) (by rfl) (w.heap.size + 2) _ _ (by rfl) ((HP.out.alloc _).drew) _ _ z (by rfl) (by rw [HZ.out]; simp) (by simp; omega) (by simp; omega) ?_; intro g' cap' w1 hown1 hg1 hb1 hsz1 _)
          try go_simp
          refine hK _ _ ?_; clear hK K
          refine wpAny_take (i := 18) (v := ?_) rfl (by kernel_rfl) (by kernel_rfl) (by kernel_rfl) (fun _ _ _ h => h) (Or.inl ⟨by rfl, ?_⟩) ?_
          rotate_left
          · (intro w; go_simp; try with_reducible rfl)
          refine wpAny_done (by kernel_rfl) ?_ _
          have HO1 := Lib.hid hown1
          have HB1 := Lib.hid hb1
          clear hown1 hb1
          go_wp2
          go_roundw
          case rel => exact ⟨k + 1, z :: r, some ⟨g', 0, none⟩, cap', by omega, by go_num, by simp, by have h := HO1.out; rw [hpop] at h; simpa using h, by simp; omega, by
                have h := HM.out
                rw [show fTakes 10 = 2 from rfl, if_neg (by simp; omega)] at h
                rw [← h]; congr 1; simp; omega, by
                have h := HF.out
                rw [HZ.out]
                exact h, ((HB.out.alloc hsz _).drew).trans HB1.out⟩
          case measure => simp [intOf]; omega
        · go_wp2_with fail
          go_region_law (refine step_app_bool (by rfl) (.tmp 46) (.tmp 59) (by rfl) (w.heap.size + 2) _ _ (by rfl) ((HP.out.alloc _).drew) _ _ z (by rfl) (by rw [HZ.out]; simp) (by simp; omega) (by simp; omega) ?_; intro g' cap' w1 hown1 hg1 hb1 hsz1 _)
          have HO1 := Lib.hid hown1
          have HB1 := Lib.hid hb1
          clear hown1 hb1
          go_wp2
          go_roundw
          case rel => exact ⟨k + 1, z :: r, some ⟨g', 0, none⟩, cap', by omega, by go_num, by simp, by have h := HO1.out; rw [hpop] at h; simpa using h, by simp; omega, by
                have h := HM.out
                rw [show fTakes 10 = 2 from rfl, if_neg (by simp; omega)] at h
                rw [← h]; congr 1; simp; omega, by
                have h := HF.out
                rw [HZ.out]
                exact h, ((HB.out.alloc hsz _).drew).trans HB1.out⟩
          case measure => simp [intOf]; omega
      · have h2r : 2 ≤ row.length := by
          have hm := HM.out
          rw [show fTakes 11 = 2 from rfl] at hm
          by_cases h : (row.length : Int) < 2
          · rw [if_pos h] at hm; cases hm
          · omega
        obtain ⟨x, y, r, rfl⟩ := two_of h2r
        clear h2r
        obtain ⟨g, cap, hv, hgB, hg, hgl, hgm, hgc, hgf⟩ := (HO.out.form).resolve_left (by rintro ⟨_, h⟩; simp at h)
        injection hv with hv1 hv2 hv3
        subst hv1 hv3
        have hx : wr.cell? ⟨g, r.length + 1, none⟩ = some (.bool x) := by have h := hgc (r.length + 1) (by simp); simpa using h
        have hy : wr.cell? ⟨g, r.length, none⟩ = some (.bool y) := by have h := hgc r.length (by simp); simpa [List.getElem_append] using h
        simp only [List.length_cons] at *
        clear hgc hgf hv2
        have hwr : IntKind.i64.wrap (r.length : Int) = r.length := IntWalk.i64_in _ (by omega)
        have hwr1 : IntKind.i64.wrap ((r.length : Int) + 1) = (r.length : Int) + 1 := IntWalk.i64_in ((r.length : Int) + 1) (by omega)
        have hwr2 : IntKind.i64.wrap ((r.length : Int) + 1 + 1 - 2) = (r.length : Int) := by rw [show (r.length : Int) + 1 + 1 - 2 = r.length by omega]; exact hwr
        have hlt2 : (r.length : Int) < (r.length : Int) + 1 + 1 := by omega
        have hn1 : ((r.length : Int) + 1).toNat = r.length + 1 := by omega
        have hlt3 : (r.length : Int) < (r.length : Int) + 1 := by omega
        have h03 : 0 ≤ (r.length : Int) + 1 := by omega
        have hlt4 : (r.length : Int) + 1 < (r.length : Int) + 1 + 1 := by omega
        have hsl0 : (0 : Int) ≤ (r.length : Int) := by omega
        have hsl1 : (r.length : Int) ≤ (cq : Int) := by simp only [List.length_reverse, List.length_cons] at hgl; omega
        have hpop : (x :: y :: r).reverse.take r.length = r.reverse := by simp
        have HP := Lib.hid (OwnB.pop (m := r.length) HO.out (by simp))
        obtain ⟨z, hz⟩ : ∃ z, z = (y || x) := ⟨_, rfl⟩
        have HZ := Lib.hid hz
        clear hz
        cases y
        · go_wp2_with fail
          go_region_law (refine step_app_bool (by rfl) (.tmp 66) (.tmp 79) (by rfl) (w.heap.size + 2) _ _ (by rfl) ((HP.out.alloc _).drew) _ _ z (by rfl) (by rw [HZ.out]; simp) (by simp; omega) (by simp; omega) ?_; intro g' cap' w1 hown1 hg1 hb1 hsz1 _)
          have HO1 := Lib.hid hown1
          have HB1 := Lib.hid hb1
          clear hown1 hb1
          go_wp2
          go_roundw
          case rel => exact ⟨k + 1, z :: r, some ⟨g', 0, none⟩, cap', by omega, by go_num, by simp, by have h := HO1.out; rw [hpop] at h; simpa using h, by simp; omega, by
                have h := HM.out
                rw [show fTakes 11 = 2 from rfl, if_neg (by simp; omega)] at h
                rw [← h]; congr 1; simp; omega, by
                have h := HF.out
                rw [HZ.out]
                exact h, ((HB.out.alloc hsz _).drew).trans HB1.out⟩
          case measure => simp [intOf]; omega
        · go_wp2_with fail
          refine wp_region_any (by kernel_rfl) ?_
          try (change wpAny _ _ _ _ _ _ _ (World.drew _))
          refine wpAny_take (i := 0) (v := ?_) rfl (by kernel_rfl) (by kernel_rfl) (by kernel_rfl) (fun _ _ _ h => h) (Or.inl ⟨by rfl, ?_⟩) ?_
          rotate_left
          · (intro w; go_simp; try with_reducible rfl)
          refine wpAny_take (i := 1) (v := ?_) rfl (by kernel_rfl) (by kernel_rfl) (by kernel_rfl) (fun _ _ _ h => h) (Or.inl ⟨by rfl, ?_⟩) ?_
          rotate_left
          · (intro w; go_simp; try with_reducible rfl)
          refine wpAny_take (i := 2) (v := ?_) rfl (by kernel_rfl) (by kernel_rfl) (by kernel_rfl) (fun _ _ _ h => h) (Or.inl ⟨by rfl, ?_⟩) ?_
          rotate_left
          · (intro w; go_simp; try with_reducible rfl)
          refine wpAny_take (i := 3) (v := ?_) rfl (by kernel_rfl) (by kernel_rfl) (by kernel_rfl) (fun _ _ _ h => h) (Or.inl ⟨by rfl, ?_⟩) ?_
          rotate_left
          · (intro w; go_simp; try with_reducible rfl)
          refine wpAny_take (i := 4) (v := ?_) rfl (by kernel_rfl) (by kernel_rfl) (by kernel_rfl) (fun _ _ _ h => h) (Or.inl ⟨by rfl, ?_⟩) ?_
          rotate_left
          · (intro w; go_simp; try with_reducible rfl)
          refine wpAny_take (i := 5) (v := ?_) rfl (by kernel_rfl) (by kernel_rfl) (by kernel_rfl) (fun _ _ _ h => h) (Or.inl ⟨by rfl, ?_⟩) ?_
          rotate_left
          · (intro w; go_simp; try with_reducible rfl)
          refine wpAny_take (i := 6) (v := ?_) rfl (by kernel_rfl) (by kernel_rfl) (by kernel_rfl) (fun _ _ _ h => h) (Or.inl ⟨by rfl, ?_⟩) ?_
          rotate_left
          · (intro w; go_simp; try with_reducible rfl)
          refine wpAny_take (i := 7) (v := ?_) rfl (by kernel_rfl) (by kernel_rfl) (by kernel_rfl) (fun _ _ _ h => h) (Or.inl ⟨by rfl, ?_⟩) ?_
          rotate_left
          · (intro w; go_simp; try with_reducible rfl)
          refine wpAny_ready (rs := [8]) (by kernel_rfl) (by simp) ?_
          refine AllReady.cons rfl (fun K hK => ?_) AllReady.nil
          go_simp
          refine hK _ _ ?_; clear hK K
          refine wpAny_take (i := 9) (v := ?_) rfl (by kernel_rfl) (by kernel_rfl) (by kernel_rfl) (fun _ _ _ h => h) (Or.inl ⟨by rfl, ?_⟩) ?_
          rotate_left
          · (intro w; go_simp; try with_reducible rfl)
          refine wpAny_take (i := 10) (v := undef) rfl (by kernel_rfl) (by kernel_rfl) (by kernel_rfl) (fun _ _ _ h => h) (Or.inr ⟨by rfl, rfl⟩) ?_
          refine wpAny_take (i := 11) (v := undef) rfl (by kernel_rfl) (by kernel_rfl) (by kernel_rfl) (fun _ _ _ h => h) (Or.inr ⟨by rfl, rfl⟩) ?_
          refine wpAny_take (i := 12) (v := undef) rfl (by kernel_rfl) (by kernel_rfl) (by kernel_rfl) (fun _ _ _ h => h) (Or.inr ⟨by rfl, rfl⟩) ?_
          refine wpAny_take (i := 13) (v := undef) rfl (by kernel_rfl) (by kernel_rfl) (by kernel_rfl) (fun _ _ _ h => h) (Or.inr ⟨by rfl, rfl⟩) ?_
          refine wpAny_take (i := 14) (v := undef) rfl (by kernel_rfl) (by kernel_rfl) (by kernel_rfl) (fun _ _ _ h => h) (Or.inr ⟨by rfl, rfl⟩) ?_
          refine wpAny_take (i := 15) (v := ?_) rfl (by kernel_rfl) (by kernel_rfl) (by kernel_rfl) (fun _ _ _ h => h) (Or.inl ⟨by rfl, ?_⟩) ?_
          rotate_left
          · (intro w; go_simp; try with_reducible rfl)
          refine wpAny_ready (rs := [16]) (by kernel_rfl) (by simp) ?_
          refine AllReady.cons rfl (fun K hK => ?_) AllReady.nil
          go_simp
          refine hK _ _ ?_; clear hK K
          refine wpAny_ready (rs := [17]) (by kernel_rfl) (by simp) ?_
          refine AllReady.cons rfl (fun K hK => ?_) AllReady.nil
          (refine step_app_bool (by rfl) (.tmp 66) (.tmp 79) (by rfl) (w.heap.size + 2) _ _ (by rfl) ((HP.out.alloc _).drew) _ _ z (by rfl) (by rw [HZ.out]; simp) (by simp; omega) (by simp; omega) ?_; intro g' cap' w1 hown1 hg1 hb1 hsz1 _)
          try go_simp
          refine hK _ _ ?_; clear hK K
          refine wpAny_take (i := 18) (v := ?_) rfl (by kernel_rfl) (by kernel_rfl) (by kernel_rfl) (fun _ _ _ h => h) (Or.inl ⟨by rfl, ?_⟩) ?_
          rotate_left
          · (intro w; go_simp; try with_reducible rfl)
          refine wpAny_done (by kernel_rfl) ?_ _
          have HO1 := Lib.hid hown1
          have HB1 := Lib.hid hb1
          clear hown1 hb1
          go_wp2
          go_roundw
          case rel => exact ⟨k + 1, z :: r, some ⟨g', 0, none⟩, cap', by omega, by go_num, by simp, by have h := HO1.out; rw [hpop] at h; simpa using h, by simp; omega, by
                have h := HM.out
                rw [show fTakes 11 = 2 from rfl, if_neg (by simp; omega)] at h
                rw [← h]; congr 1; simp; omega, by
                have h := HF.out
                rw [HZ.out]
                exact h, ((HB.out.alloc hsz _).drew).trans HB1.out⟩
          case measure => simp [intOf]; omega
      · have h2r : 2 ≤ row.length := by
          have hm := HM.out
          rw [show fTakes 13 = 2 from rfl] at hm
          by_cases h : (row.length : Int) < 2
          · rw [if_pos h] at hm; cases hm
          · omega
        obtain ⟨x, y, r, rfl⟩ := two_of h2r
        clear h2r
        obtain ⟨g, cap, hv, hgB, hg, hgl, hgm, hgc, hgf⟩ := (HO.out.form).resolve_left (by rintro ⟨_, h⟩; simp at h)
        injection hv with hv1 hv2 hv3
        subst hv1 hv3
        have hx : wr.cell? ⟨g, r.length + 1, none⟩ = some (.bool x) := by have h := hgc (r.length + 1) (by simp); simpa using h
        have hy : wr.cell? ⟨g, r.length, none⟩ = some (.bool y) := by have h := hgc r.length (by simp); simpa [List.getElem_append] using h
        simp only [List.length_cons] at *
        clear hgc hgf hv2
        have hwr : IntKind.i64.wrap (r.length : Int) = r.length := IntWalk.i64_in _ (by omega)
        have hwr1 : IntKind.i64.wrap ((r.length : Int) + 1) = (r.length : Int) + 1 := IntWalk.i64_in ((r.length : Int) + 1) (by omega)
        have hwr2 : IntKind.i64.wrap ((r.length : Int) + 1 + 1 - 2) = (r.length : Int) := by rw [show (r.length : Int) + 1 + 1 - 2 = r.length by omega]; exact hwr
        have hlt2 : (r.length : Int) < (r.length : Int) + 1 + 1 := by omega
        have hn1 : ((r.length : Int) + 1).toNat = r.length + 1 := by omega
        have hlt3 : (r.length : Int) < (r.length : Int) + 1 := by omega
        have h03 : 0 ≤ (r.length : Int) + 1 := by omega
        have hlt4 : (r.length : Int) + 1 < (r.length : Int) + 1 + 1 := by omega
        have hsl0 : (0 : Int) ≤ (r.length : Int) := by omega
        have hsl1 : (r.length : Int) ≤ (cq : Int) := by simp only [List.length_reverse, List.length_cons] at hgl; omega
        have hpop : (x :: y :: r).reverse.take r.length = r.reverse := by simp
        have HP := Lib.hid (OwnB.pop (m := r.length) HO.out (by simp))
        obtain ⟨z, hz⟩ : ∃ z, z = (!y || x) := ⟨_, rfl⟩
        have HZ := Lib.hid hz
        clear hz
        cases y
        · go_wp2_with fail
          refine wp_region_any (by kernel_rfl) ?_
          try (change wpAny _ _ _ _ _ _ _ (World.drew _))
          refine wpAny_take (i := 0) (v := ?_) rfl (by kernel_rfl) (by kernel_rfl) (by kernel_rfl) (fun _ _ _ h => h) (Or.inl ⟨by rfl, ?_⟩) ?_
          rotate_left
          · (intro w; go_simp; try with_reducible rfl)
          refine wpAny_take (i := 1) (v := ?_) rfl (by kernel_rfl) (by kernel_rfl) (by kernel_rfl) (fun _ _ _ h => h) (Or.inl ⟨by rfl, ?_⟩) ?_
          rotate_left
          · (intro w; go_simp; try with_reducible rfl)
          refine wpAny_take (i := 2) (v := ?_) rfl (by kernel_rfl) (by kernel_rfl) (by kernel_rfl) (fun _ _ _ h => h) (Or.inl ⟨by rfl, ?_⟩) ?_
          rotate_left
          · (intro w; go_simp; try with_reducible rfl)
          refine wpAny_take (i := 3) (v := ?_) rfl (by kernel_rfl) (by kernel_rfl) (by kernel_rfl) (fun _ _ _ h => h) (Or.inl ⟨by rfl, ?_⟩) ?_
          rotate_left
          · (intro w; go_simp; try with_reducible rfl)
          refine wpAny_take (i := 4) (v := ?_) rfl (by kernel_rfl) (by kernel_rfl) (by kernel_rfl) (fun _ _ _ h => h) (Or.inl ⟨by rfl, ?_⟩) ?_
          rotate_left
          · (intro w; go_simp; try with_reducible rfl)
          refine wpAny_take (i := 5) (v := ?_) rfl (by kernel_rfl) (by kernel_rfl) (by kernel_rfl) (fun _ _ _ h => h) (Or.inl ⟨by rfl, ?_⟩) ?_
          rotate_left
          · (intro w; go_simp; try with_reducible rfl)
          refine wpAny_take (i := 6) (v := ?_) rfl (by kernel_rfl) (by kernel_rfl) (by kernel_rfl) (fun _ _ _ h => h) (Or.inl ⟨by rfl, ?_⟩) ?_
          rotate_left
          · (intro w; go_simp; try with_reducible rfl)
          refine wpAny_take (i := 7) (v := ?_) rfl (by kernel_rfl) (by kernel_rfl) (by kernel_rfl) (fun _ _ _ h => h) (Or.inl ⟨by rfl, ?_⟩) ?_
          rotate_left
          · (intro w; go_simp; try with_reducible rfl)
          refine wpAny_ready (rs := [8]) (by kernel_rfl) (by simp) ?_
          refine AllReady.cons rfl (fun K hK => ?_) AllReady.nil
          go_simp
          refine hK _ _ ?_; clear hK K
          refine wpAny_take (i := 9) (v := ?_) rfl (by kernel_rfl) (by kernel_rfl) (by kernel_rfl) (fun _ _ _ h => h) (Or.inl ⟨by rfl, ?_⟩) ?_
          rotate_left
          · (intro w; go_simp; try with_reducible rfl)
          refine wpAny_take (i := 10) (v := ?_) rfl (by kernel_rfl) (by kernel_rfl) (by kernel_rfl) (fun _ _ _ h => h) (Or.inl ⟨by rfl, ?_⟩) ?_
          rotate_left
          · (intro w; go_simp; try with_reducible rfl)
          refine wpAny_take (i := 11) (v := undef) rfl (by kernel_rfl) (by kernel_rfl) (by kernel_rfl) (fun _ _ _ h => h) (Or.inr ⟨by rfl, rfl⟩) ?_
          refine wpAny_take (i := 12) (v := undef) rfl (by kernel_rfl) (by kernel_rfl) (by kernel_rfl) (fun _ _ _ h => h) (Or.inr ⟨by rfl, rfl⟩) ?_
          refine wpAny_take (i := 13) (v := undef) rfl (by kernel_rfl) (by kernel_rfl) (by kernel_rfl) (fun _ _ _ h => h) (Or.inr ⟨by rfl, rfl⟩) ?_
          refine wpAny_take (i := 14) (v := undef) rfl (by kernel_rfl) (by kernel_rfl) (by kernel_rfl) (fun _ _ _ h => h) (Or.inr ⟨by rfl, rfl⟩) ?_
          refine wpAny_take (i := 15) (v := undef) rfl (by kernel_rfl) (by kernel_rfl) (by kernel_rfl) (fun _ _ _ h => h) (Or.inr ⟨by rfl, rfl⟩) ?_
          refine wpAny_take (i := 16) (v := ?_) rfl (by kernel_rfl) (by kernel_rfl) (by kernel_rfl) (fun _ _ _ h => h) (Or.inl ⟨by rfl, ?_⟩) ?_
          rotate_left
          · (intro w; go_simp; try with_reducible rfl)
          refine wpAny_ready (rs := [17]) (by kernel_rfl) (by simp) ?_
          refine AllReady.cons rfl (fun K hK => ?_) AllReady.nil
          go_simp
          refine hK _ _ ?_; clear hK K
          refine wpAny_ready (rs := [18]) (by kernel_rfl) (by simp) ?_
          refine AllReady.cons rfl (fun K hK => ?_) AllReady.nil
          (refine step_app_bool (by rfl) (.tmp 86) (.tmp 100) (by rfl) (w.heap.size + 2) _ _ (by rfl) ((HP.out.alloc _).drew) _ _ z (by rfl) (by rw [HZ.out]; simp) (by simp; omega) (by simp; omega) ?_; intro g' cap' w1 hown1 hg1 hb1 hsz1 _)
          try go_simp
          refine hK _ _ ?_; clear hK K
          refine wpAny_take (i := 19) (v := ?_) rfl (by kernel_rfl) (by kernel_rfl) (by kernel_rfl) (fun _ _ _ h => h) (Or.inl ⟨by rfl, ?_⟩) ?_
          rotate_left
          · (intro w; go_simp; try with_reducible rfl)
          refine wpAny_done (by kernel_rfl) ?_ _
          have HO1 := Lib.hid hown1
          have HB1 := Lib.hid hb1
          clear hown1 hb1
          go_wp2
          go_roundw
          case rel => exact ⟨k + 1, z :: r, some ⟨g', 0, none⟩, cap', by omega, by go_num, by simp, by have h := HO1.out; rw [hpop] at h; simpa using h, by simp; omega, by
                have h := HM.out
                rw [show fTakes 13 = 2 from rfl, if_neg (by simp; omega)] at h
                rw [← h]; congr 1; simp; omega, by
                have h := HF.out
                rw [HZ.out]
                exact h, ((HB.out.alloc hsz _).drew).trans HB1.out⟩
          case measure => simp [intOf]; omega
        · go_wp2_with fail
          go_region_law (refine step_app_bool (by rfl) (.tmp 86) (.tmp 100) (by rfl) (w.heap.size + 2) _ _ (by rfl) ((HP.out.alloc _).drew) _ _ z (by rfl) (by rw [HZ.out]; simp) (by simp; omega) (by simp; omega) ?_; intro g' cap' w1 hown1 hg1 hb1 hsz1 _)
          have HO1 := Lib.hid hown1
          have HB1 := Lib.hid hb1
          clear hown1 hb1
          go_wp2
          go_roundw
          case rel => exact ⟨k + 1, z :: r, some ⟨g', 0, none⟩, cap', by omega, by go_num, by simp, by have h := HO1.out; rw [hpop] at h; simpa using h, by simp; omega, by
                have h := HM.out
                rw [show fTakes 13 = 2 from rfl, if_neg (by simp; omega)] at h
                rw [← h]; congr 1; simp; omega, by
                have h := HF.out
                rw [HZ.out]
                exact h, ((HB.out.alloc hsz _).drew).trans HB1.out⟩
          case measure => simp [intOf]; omega
      · obtain ⟨m, rfl⟩ := Int.eq_ofNat_of_zero_le hs0
        have hm1 : m < f.atoms.length := by omega
        obtain ⟨vs, vt, q0, q1, q2, q3, q4, q5⟩ := G6.out m hm1
        have r0 : wr.cell? ⟨b1, of1 + m * 4, none⟩ = some (.int .i64 f.atoms[m].what) := (HB0.out.cell (p := ⟨b1, of1 + m * 4, none⟩) g5).trans q0
        have r1 : wr.cell? ⟨b1, of1 + m * 4 + 1, none⟩ = some vs := (HB0.out.cell (p := ⟨b1, of1 + m * 4 + 1, none⟩) g5).trans q1
        have r2 : wr.cell? ⟨b1, of1 + m * 4 + 2, none⟩ = some vt := (HB0.out.cell (p := ⟨b1, of1 + m * 4 + 2, none⟩) g5).trans q3
        have r3 : wr.cell? ⟨b1, of1 + m * 4 + 3, none⟩ = some (.int .i64 f.atoms[m].n) := (HB0.out.cell (p := ⟨b1, of1 + m * 4 + 3, none⟩) g5).trans q5
        have HI := Lib.hid (q2.below HB0.out)
        have HJ := Lib.hid (q4.below HB0.out)
        have HKr := Lib.hid (HK.out.keep HB0.out)
        have HA1 := Lib.hid (HA0.out f.atoms[m] (List.getElem_mem hm1))
        have HFV1 := Lib.hid (show fVal f ⟨u, a, b, c⟩ (m : Int) = atomTrue f.atoms[m] ⟨u, a, b, c⟩ by simp [fVal, List.getD, hm1])
        have HTK := Lib.hid (show fTakes (m : Int) = 0 by unfold fTakes; rw [if_neg (by omega), if_neg (by omega)])
        clear q0 q1 q2 q3 q4 q5
        go_wp2_with fail
        go_region_law (first | (go_simp; go_at_call 144; refine (atomTrue_any vs vt f.atoms[m] u a b c wr.drew HI.out HJ.out HKr.out HA1.out hW).mono ?_; rintro e w1 ⟨rfl, hb1⟩) | (refine step_app_bool (by rfl) (.tmp 19) (.tmp 27) (by rfl) (w.heap.size + 2) _ _ (by rfl) (((HO.out.drew).below (w' := w1) hb1).alloc _) _ _ (atomTrue f.atoms[m] ⟨u, a, b, c⟩) (by rfl) (by simp) (by simp; omega) (by have := hb1.size; simp at this; simp; omega) ?_; intro g' cap' w2 hown1 hg1 hb2 hsz1 _))
        all_goals
          have HO1 := Lib.hid hown1
          have HB1 := Lib.hid hb1
          have HB2 := Lib.hid hb2
          clear hown1 hb1 hb2
          have hz1 : wr.heap.size ≤ w1.heap.size := HB1.out.size
          go_wp2
          go_roundw
          case rel => exact ⟨k + 1, atomTrue f.atoms[m] ⟨u, a, b, c⟩ :: row, some ⟨g', 0, none⟩, cap', by omega, by go_num, by simp, by simpa using HO1.out, by simp; omega, by
              have h := HM.out
              rw [HTK.out, if_neg (by omega)] at h
              rw [← h]; congr 1, by
              have h := HF.out
              rw [show fStep (fVal f ⟨u, a, b, c⟩) row (m : Int) = atomTrue f.atoms[m] ⟨u, a, b, c⟩ :: row by
                unfold fStep; rw [if_neg (by omega), if_neg (by omega), if_neg (by omega), if_neg (by omega), HFV1.out]] at h
              exact h, ((HB.out.drew.trans (HB1.out.mono hsz)).alloc (by omega) _).trans HB2.out⟩
          case measure => simp [intOf]; omega
    · have hkk : k = f.code.length := by omega
      rw [List.drop_eq_nil_of_le (by omega), formMany_nil] at hm
      rw [List.drop_eq_nil_of_le (by omega), List.foldl_nil] at hfo
      obtain ⟨x, rfl⟩ : ∃ x, row = [x] := by
        have h1 : (row.length : Int) = 1 := by simpa using hm
        exact List.length_eq_one_iff.1 (by omega)
      obtain ⟨g, cap, hv, hgB, hg, hgl, hgm, hgc, hgf⟩ := (hown.form).resolve_left (by rintro ⟨_, h⟩; simp at h)
      injection hv with hv1 hv2 hv3
      subst hv1 hv3
      have hx : wr.cell? ⟨g, 0, none⟩ = some (.bool x) := by have h := hgc 0 (by simp); simpa using h
      have HX := Lib.hid (show formTrue f ⟨u, a, b, c⟩ = x by unfold formTrue; rw [← hfo]; rfl)
      have HB0 := Lib.hid hB0
      simp only [List.length_cons, List.length_nil] at *
      clear hgc hgf hv2 hm hfo hB hown hkk hB0
      go_wp2
      go_ret
      exact ⟨by rw [HX.out]; rfl, HB0.out⟩
end Go.Proofs.YtpfinfneclmjkaaGreatDoor
