/- The log's All: a copy of all that was said. Conditions: the log lies in a block; what was said lies, and is right. -/
import Derived.Test.YtpfinfneclmjkaaGreatDoorFormOwn
import Derived.Test.YtpfinfneclmjkaaGreatDoorOwnF
import Derived.Test.YtpfinfneclmjkaaGreatDoorLog0
namespace Go.Proofs.YtpfinfneclmjkaaGreatDoor
open Go.RowKit V

theorem fm_small {f : Fm} (h : formCheck f = 0) : f.atoms.length ≤ 1000 ∧ f.code.length ≤ 1000 ∧ ∀ a ∈ f.atoms, a.s.length ≤ 1000 ∧ a.t.length ≤ 1000 := by
  have hF := formCheck_ok h
  refine ⟨by have := hF.a6; omega, by have := hF.c20; omega, fun a ha => ?_⟩
  have hA := atomCheck_ok (hF.at0 a ha)
  have h1 := (termCheck_ok hA.s0).2.1
  refine ⟨by omega, ?_⟩
  cases ht : isT a.what with
  | true => have := (termCheck_ok (hA.t0 ht)).2.1; omega
  | false => rw [hA.tn ht]; simp

set_option maxHeartbeats 1000000 in
set_option maxRecDepth 100000 in
theorem logAll_any {P : Nat → Prop} (b : Nat) (u : Int) (vs : Value) (y : ByteArray) (s l : Int) (st : Bool) (said : List Fm) (w : World) (h : LogAt w b u vs y s l st) (hv : Fms P w vs said) (hF : ∀ f ∈ said, formCheck f = 0) (hn : said.length ≤ 1000) :
    Calls Tryz.prog 34 #[.pointer (some ⟨b, 0, none⟩)] w fun e w' => ∃ v, e = .returned v ∧ OwnF w.heap.size (fun k => w.heap.size ≤ k) w' v said ∧ Below w.heap.size w w' := by
  obtain ⟨c0, c1, c2, c3, c4, c5, hf⟩ := h.cells
  clear hf h c0 c2 c3 c4 c5
  obtain ⟨ao, cap, rfl⟩ := hv.form
  have HV := Lib.hid hv
  have HF := Lib.hid hF
  clear hv hF
  go_enter Tryz.func34, Tryz.ntmps34
  go_wp2
  go_loopw [3, 11] (fun v i wr => ∃ k : Nat, k ≤ said.length ∧ i = .int .i64 k ∧ OwnF w.heap.size (fun q => w.heap.size ≤ q) wr v (said.take k) ∧ Below w.heap.size w wr) (fun _ i _ => said.length - (intOf i).toNat)
  case atStart => exact ⟨0, Nat.zero_le _, rfl, ownF_nil _ _ _, Below.refl _ _⟩
  case round =>
    obtain ⟨k, hk, rfl, hO, hB⟩ := hrel
    by_cases hlt : k < said.length
    · rcases HV.out with ⟨_, h0⟩ | ⟨bs, off, cap', hv, v2, v3, v4, v5, v6⟩
      · rw [h0] at hlt; simp at hlt
      · injection hv with e1 e2 e3
        subst e1
        subst e3
        obtain ⟨va, vc, x0, x1, x2⟩ := v6 k hlt
        have hf := HF.out said[k] (List.getElem_mem hlt)
        have hsm := fm_small hf
        have y0 := (hB.cell (p := ⟨bs, off + k * 2, none⟩) v5).trans x0
        have y1 := (hB.cell (p := ⟨bs, off + k * 2 + 1, none⟩) v5).trans x1
        have y2 := x2.below hB
        obtain ⟨va1, va2, rfl⟩ := y2.1.form
        obtain ⟨vc1, vc2, rfl⟩ := y2.2.form
        have Y2 := Lib.hid y2
        have HS := Lib.hid hsm
        have HO := Lib.hid hO
        have HB := Lib.hid hB
        have V6 := Lib.hid v6
        clear v6 x0 x1 x2 y2 hf hsm hO hB
        go_wp2_with fail
        refine (own_any (P := P) _ _ said[k] _ (Y2.out.alloc _) HS.out.1 HS.out.2.1 HS.out.2.2).mono ?_
        rintro e w1 ⟨va', ac, cc, rfl, hA, hC, hb1⟩
        obtain ⟨vo, vcap, rfl⟩ := hA.form
        simp only [World.size_alloc] at hA hC hb1
        have hz1 : wr.heap.size + 1 ≤ w1.heap.size := by have := hb1.size; simpa using this
        have hown : u3.ownBlock = none ∨ ∃ q, u3.ownBlock = some q ∧ q < wr.heap.size := by
          rcases HO.out.form with ⟨h, _⟩ | ⟨g', cap', h, _, h2, _⟩
          · rw [h]; exact .inl rfl
          · rw [h]; exact .inr ⟨g', rfl, h2⟩
        have HB1 := Lib.hid (HB.out.trans (((Below.refl wr.heap.size wr).alloc (Nat.le_refl _) _).trans (hb1.mono (by omega)) |>.mono HB.out.size))
        have HO1 := Lib.hid ((HO.out.alloc _).below (by simpa using hb1))
        have HFV : Hid (FmV (fun q => w.heap.size ≤ q ∧ some q ≠ u3.ownBlock) w1 (.slice vo said[k].atoms.length vcap) (.slice ac said[k].code.length cc) said[k]) :=
          Lib.hid ⟨hA.weak fun q _ hq => ⟨by have := HB.out.size; omega, by rcases hown with h | ⟨q', h, h1⟩ <;> rw [h] <;> simp; omega⟩, hC.ints.weak fun q _ hq => ⟨by have := HB.out.size; have hq' : wr.heap.size + 1 ≤ q := hq; omega, by have hq' : wr.heap.size + 1 ≤ q := hq; rcases hown with h | ⟨q', h, h1⟩ <;> rw [h] <;> simp; omega⟩⟩
        have HWS := Lib.hid HB.out.size
        clear hA hC hb1 hown
        go_wp2_with (at_builtin; refine app_form rfl _ _ rfl w.heap.size (fun q => w.heap.size ≤ q) (said.take k) _ rfl (HO1.out.alloc _) w1.heap.size 1 _ _ said[k] rfl ?c0 ?c1 (HFV.out.alloc _) ?c2 ?c3 ?_)
        case c0 => simp
        case c1 => simp
        case c2 => simp; omega
        case c3 => have := HWS.out; simp; omega
        intro g cap2 w2 hO2 hg2 hb2 hgb2 hat2
        have HT := Lib.hid (List.take_succ_eq_append_getElem hlt)
        have HL := Lib.hid (show (said.take k).length = k by simp; omega)
        have HO2 := Lib.hid hO2
        have HB2 := Lib.hid hb2
        clear hO2 hb2 hgb2 hat2
        go_wp2
        go_roundw
        case rel => exact ⟨k + 1, by omega, by go_num, HO2.out, (HB1.out.alloc (by have := HWS.out; omega) _).trans HB2.out⟩
        case measure => simp [intOf]; omega
    · have hkn : k = said.length := by omega
      subst hkn
      have e := List.take_of_length_le (Nat.le_refl said.length)
      rw [e] at hO
      have HO := Lib.hid hO
      have HB := Lib.hid hB
      clear hO hB e
      go_wp2
      go_ret
      exact ⟨_, rfl, HO.out, HB.out⟩
end Go.Proofs.YtpfinfneclmjkaaGreatDoor
