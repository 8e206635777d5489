/- form.Own: a copy of a formula. Condition: the formula lies; it is no bigger than a thousand. -/
import Derived.Test.YtpfinfneclmjkaaGreatDoorOwnA
namespace Go.Proofs.YtpfinfneclmjkaaGreatDoor
open Go.RowKit V

set_option maxHeartbeats 12000000 in
set_option maxRecDepth 100000 in
theorem own_any {P : Nat → Prop} (va vc : Value) (f : Fm) (w : World) (hf : FmV P w va vc f) (h1 : f.atoms.length ≤ 1000) (h2 : f.code.length ≤ 1000) (h3 : ∀ a ∈ f.atoms, a.s.length ≤ 1000 ∧ a.t.length ≤ 1000) :
    Calls Tryz.prog 108 #[.agg #[va, vc]] w fun e w' => ∃ va' ac cc, e = .returned (.agg #[va', .slice ac f.code.length cc]) ∧
      Ats (fun k => w.heap.size ≤ k ∧ (Value.slice ac f.code.length cc).ownBlock ≠ some k) w' va' f.atoms ∧ OwnI w.heap.size w' (.slice ac f.code.length cc) f.code ∧ Below w.heap.size w w' := by
  obtain ⟨hA, hC⟩ := hf
  obtain ⟨ao, acap, rfl⟩ := hA.form
  obtain ⟨co, ccap, rfl⟩ := hC.form
  have HA := Lib.hid (hA.weak (Q := fun k => k < w.heap.size) fun k hk _ => hk)
  have HC := Lib.hid hC
  have H3 := Lib.hid h3
  clear hA hC h3
  go_enter Tryz.func108, Tryz.ntmps108
  go_wp2_with fail
  obtain ⟨W0, hW0⟩ : ∃ W0, ((w.alloc (.cells #[.slice ao f.atoms.length acap, .slice co f.code.length ccap] 25)).alloc (.cells #[.slice none 0 0, .slice none 0 0] 25)) = W0 := ⟨_, rfl⟩
  have hz : W0.heap.size = w.heap.size + 2 := by rw [← hW0]; simp
  have hbW : Below w.heap.size w W0 := by rw [← hW0]; exact ((Below.refl _ _).alloc (Nat.le_refl _) _).alloc (by simp) _
  have k0 : W0.heap[w.heap.size]? = some (.cells #[.slice ao f.atoms.length acap, .slice co f.code.length ccap] 25 (0, 0)) := by
    rw [← hW0, Deep.blk_alloc_lt _ _ _ (by simp), Deep.blk_alloc_new]
  have k1 : W0.heap[w.heap.size + 1]? = some (.cells #[.slice none 0 0, .slice none 0 0] 25 (0, 0)) := by
    rw [← hW0]; have := Deep.blk_alloc_new (w.alloc (.cells #[.slice ao f.atoms.length acap, .slice co f.code.length ccap] 25)) (.cells #[.slice none 0 0, .slice none 0 0] 25); simpa using this
  have HA0 := Lib.hid (HA.out.below hbW)
  have HC0 := Lib.hid (HC.out.below hbW)
  have HB0 := Lib.hid hbW
  rw [hW0]
  clear hW0 hbW
  have c0 : W0.cell? ⟨w.heap.size, 0, none⟩ = some (.slice ao f.atoms.length acap) := by simp [World.cell?, k0]
  have c1 : W0.cell? ⟨w.heap.size, 1, none⟩ = some (.slice co f.code.length ccap) := by simp [World.cell?, k0]
  rename_i K hK
  have KEY : ∀ (w1 w2 : World) (a1 : Option Addr) (c1 : Nat) (a2 : Option Addr) (c2 : Nat), OwnA W0.drew.heap.size (fun k => k < w.heap.size) w1 (.slice a1 f.atoms.length c1) f.atoms → Below W0.drew.heap.size W0.drew w1 →
      OwnI w1.heap.size w2 (.slice a2 f.code.length c2) f.code → Below w1.heap.size w1 w2 →
      K { tmps := #[.agg #[.slice ao f.atoms.length acap, .slice co f.code.length ccap], .pointer (some ⟨w.heap.size, 0, none⟩), .pointer (some ⟨w.heap.size + 1, 0, none⟩), undef, undef, .pointer (some ⟨w.heap.size, 0, none⟩), .slice ao f.atoms.length acap, .slice a1 f.atoms.length c1,
        .pointer (some ⟨w.heap.size, 1, none⟩), .slice co f.code.length ccap, .slice a2 f.code.length c2, .pointer (some ⟨w.heap.size, 0, none⟩), .pointer (some ⟨w.heap.size, 1, none⟩), undef, undef, undef, undef, undef, undef, undef, undef, undef, undef, undef, undef, undef, undef, undef, undef, undef, undef, undef, undef, undef, undef, undef, undef, undef, undef], defers := [] }
        ((w2.setCell ⟨w.heap.size, 0, none⟩ (.slice a1 f.atoms.length c1)).setCell ⟨w.heap.size, 1, none⟩ (.slice a2 f.code.length c2)) := by
    intro w1 w2 a1 c1 a2 c2 ho1 hb1 ho2 hb2
    have k01 := (hb1.block w.heap.size (by show w.heap.size < W0.heap.size; omega)).trans k0
    have k02 := (hb2.block w.heap.size (by have := hb1.size; have : W0.heap.size ≤ w1.heap.size := this; omega)).trans k01
    have d0 : w2.cell? ⟨w.heap.size, 0, none⟩ = some (.slice ao f.atoms.length acap) := (by simp [World.cell?, k02])
    have d1 : w2.cell? ⟨w.heap.size, 1, none⟩ = some (.slice co f.code.length ccap) := (by simp [World.cell?, k02])
    have e0 : w2.frozen? ⟨w.heap.size, 0, none⟩ = false := (by simp [World.frozen?, k02])
    have e1 : w2.frozen? ⟨w.heap.size, 1, none⟩ = false := (by simp [World.frozen?, k02])
    have hs1 : W0.heap.size ≤ w1.heap.size := hb1.size
    have hs2 := hb2.size
    have HB2 := Lib.hid ((HB0.out.drew.trans (hb1.mono (B' := w.heap.size) (show w.heap.size ≤ W0.heap.size by omega))).trans (hb2.mono (B' := w.heap.size) (by omega)))
    have HO1 := Lib.hid (ho1.below' hb2)
    have HO2 := Lib.hid ho2
    have hg1 := ho1
    have k12 := (hb2.block (w.heap.size + 1) (by omega)).trans ((hb1.block (w.heap.size + 1) (by show _ < W0.heap.size; omega)).trans k1)
    obtain ⟨W3, hW3⟩ : ∃ W3, ((w2.setCell ⟨w.heap.size, 0, none⟩ (.slice a1 f.atoms.length c1)).setCell ⟨w.heap.size, 1, none⟩ (.slice a2 f.code.length c2)) = W3 := ⟨_, rfl⟩
    have z3 : W3.heap.size = w2.heap.size := by rw [← hW3]; simp [World.setCell]
    have b3 : ∀ k, k ≠ w.heap.size → W3.heap[k]? = w2.heap[k]? := fun k hk => by rw [← hW3, Below.heap_setCell _ _ _ _ (by simpa using hk), Below.heap_setCell _ _ _ _ (by simpa using hk)]
    have g3 : w2.grownBy W3 (some w.heap.size) := by rw [← hW3]; exact gb_trans (gb_set _ _ _ _) (gb_set _ _ _ _)
    have r0 : W3.cell? ⟨w.heap.size, 0, none⟩ = some (.slice a1 f.atoms.length c1) := by
      rw [← hW3, World.cell?_setCell_other _ _ _ _ (by simp)]; exact World.cell?_setCell_same' _ _ _ (by rw [d0]; rfl)
    have r1 : W3.cell? ⟨w.heap.size, 1, none⟩ = some (.slice a2 f.code.length c2) := by
      rw [← hW3]; exact World.cell?_setCell_same' _ _ _ (by rw [World.cell?_setCell_other _ _ _ _ (by simp), d1]; rfl)
    have k13 := (b3 (w.heap.size + 1) (by omega)).trans k12
    have HB3 := Lib.hid (show Below w.heap.size w W3 by rw [← hW3]; exact (HB2.out.setCell (p := ⟨w.heap.size, 0, none⟩) (Nat.le_refl _) _).setCell (p := ⟨w.heap.size, 1, none⟩) (Nat.le_refl _) _)
    rw [hW3]
    have HW3 := Lib.hid hW3
    clear hW3
    have ho2' : OwnI w1.heap.size W3 (.slice a2 f.code.length c2) f.code := ho2.gb g3 (by
      rcases ho2.form with ⟨h, _⟩ | ⟨g, cap, h, hB, _⟩
      · rw [h]; exact .inl rfl
      · rw [h]; exact .inr (by simp [Value.ownBlock]; omega))
    have hp3 := ((HO1.out.gb g3 (fun r hr => by cases hr; exact ⟨by show _ < W0.heap.size; omega, by simp⟩)).part (fun k => w.heap.size + 2 ≤ k ∧ (Value.slice a2 f.code.length c2).ownBlock ≠ some k ∧ (Value.slice a1 f.atoms.length c1).ownBlock ≠ some k))
    have HO3 := Lib.hid ho2'
    have HP3 := Lib.hid hp3
    have hne12 : (Value.slice a2 f.code.length c2).ownBlock = none ∨ (Value.slice a2 f.code.length c2).ownBlock ≠ (Value.slice a1 f.atoms.length c1).ownBlock := by
      rcases ho2.form with ⟨h, _⟩ | ⟨g', cap', h, hB', _⟩
      · rw [h]; exact .inl rfl
      · rcases ho1 with ⟨h', _⟩ | ⟨g, cap, h', _, _, _, hg, _⟩
        · rw [h, h']; exact .inr (by simp [Value.ownBlock])
        · rw [h, h']; exact .inr (by simp [Value.ownBlock]; omega)
    have HNE := Lib.hid hne12
    clear hne12
    clear ho2' hp3 ho1 hb1 ho2 hb2 k01 k02 hg1
    have hB1 : W0.drew.heap.size = W0.heap.size := rfl
    go_wp2
    go_loopw [3, 4, 16] (fun x y i wr => ∃ k : Nat, k ≤ f.atoms.length ∧ i = .int .i64 k ∧ W3.grownBy wr (Value.slice a1 f.atoms.length c1).ownBlock ∧ PartA (w.heap.size + 2) k (fun k => k < w.heap.size) (fun k => w.heap.size + 2 ≤ k ∧ (Value.slice a2 f.code.length c2).ownBlock ≠ some k ∧ (Value.slice a1 f.atoms.length c1).ownBlock ≠ some k) wr (.slice a1 f.atoms.length c1) f.atoms) (fun _ _ i _ => f.atoms.length - (intOf i).toNat)
    case atStart =>
      exact ⟨0, Nat.zero_le _, rfl, gb_refl _ _, (show W0.drew.heap.size = w.heap.size + 2 from hz) ▸ HP3.out⟩
    case round =>
      obtain ⟨k, hk, rfl, hG, hP⟩ := hrel
      by_cases hlt : k < f.atoms.length
      · rcases hP with ⟨_, h0⟩ | ⟨g, cap, hv, q1, q2, q3, q4, q5, q6, q7⟩
        · rw [h0] at hlt; simp at hlt
        · injection hv with e1 e2 e3
          subst e1
          subst e3
          obtain ⟨vs, vt, x0, x1, x2, x3, x4, x5⟩ := q6 k hlt (Nat.le_refl _)
          obtain ⟨sa, sc, rfl⟩ := x2.form
          obtain ⟨ta, tc, rfl⟩ := x4.form
          have hgn : (some w.heap.size : Option Nat) ≠ (Value.slice (some ⟨g, 0, none⟩) f.atoms.length c1).ownBlock := by simp [Value.ownBlock]; omega
          have y0 : wr.cell? ⟨w.heap.size, 0, none⟩ = some (.slice (some ⟨g, 0, none⟩) f.atoms.length c1) := hG.cell r0 hgn
          have hzr : w.heap.size + 2 ≤ wr.heap.size := by have := hG.size; omega
          have HG := Lib.hid hG
          have H6 := Lib.hid q6
          have H7 := Lib.hid q7
          have f1 := q5 (k * 4 + 1)
          have f2 := q5 (k * 4 + 2)
          have HS := Lib.hid x2
          have HT := Lib.hid x4
          have HF := Lib.hid q5
          have h3k := H3.out f.atoms[k] (List.getElem_mem hlt)
          clear hG q6 q7 x2 x4 q5 hgn
          go_wp2_with fail
          obtain ⟨V, hV⟩ : ∃ V, wr.alloc (.cells #[.int .i64 f.atoms[k].what, .slice sa f.atoms[k].s.length sc, .slice ta f.atoms[k].t.length tc, .int .i64 f.atoms[k].n] 50) = V := ⟨_, rfl⟩
          have zV : V.heap.size = wr.heap.size + 1 := by rw [← hV]; simp
          have bV : Below wr.heap.size wr V := by rw [← hV]; exact (Below.refl _ _).alloc (Nat.le_refl _) _
          have kV : V.heap[wr.heap.size]? = some (.cells #[.int .i64 f.atoms[k].what, .slice sa f.atoms[k].s.length sc, .slice ta f.atoms[k].t.length tc, .int .i64 f.atoms[k].n] 50 (0, 0)) := by rw [← hV]; exact Deep.blk_alloc_new _ _
          rw [hV]
          clear hV
          have y1 : V.cell? ⟨w.heap.size, 0, none⟩ = some (.slice (some ⟨g, 0, none⟩) f.atoms.length c1) := (bV.cell (p := ⟨w.heap.size, 0, none⟩) (by simp; omega)).trans y0
          have b1 : V.cell? ⟨wr.heap.size, 1, none⟩ = some (.slice sa f.atoms[k].s.length sc) := by simp [World.cell?, kV]
          have b2 : V.cell? ⟨wr.heap.size, 2, none⟩ = some (.slice ta f.atoms[k].t.length tc) := by simp [World.cell?, kV]
          have HBV := Lib.hid bV
          have HKV := Lib.hid kV
          clear bV kV
          rename_i K2 hK2
          have KEY2 : ∀ (v1 v2 : World) (s1 : Option Addr) (d1 : Nat) (s2 : Option Addr) (d2 : Nat), Below V.drew.heap.size V.drew v1 → OwnI V.drew.heap.size v1 (.slice s1 f.atoms[k].s.length d1) f.atoms[k].s → Below v1.heap.size v1 v2 → OwnI v1.heap.size v2 (.slice s2 f.atoms[k].t.length d2) f.atoms[k].t →
              K2 { tmps := #[.agg #[.slice ao f.atoms.length acap, .slice co f.code.length ccap], .pointer (some ⟨w.heap.size, 0, none⟩), .pointer (some ⟨w.heap.size + 1, 0, none⟩), .int .i64 (k : Int), .pointer (some ⟨wr.heap.size, 0, none⟩), .pointer (some ⟨w.heap.size, 0, none⟩), .slice ao f.atoms.length acap,
                .slice (some ⟨g, 0, none⟩) f.atoms.length c1, .pointer (some ⟨w.heap.size, 1, none⟩), .slice co f.code.length ccap, .slice a2 f.code.length c2, .pointer (some ⟨w.heap.size, 0, none⟩), .pointer (some ⟨w.heap.size, 1, none⟩), .pointer (some ⟨w.heap.size, 0, none⟩), .slice (some ⟨g, 0, none⟩) f.atoms.length c1,
                .int .i64 (f.atoms.length : Int), .int .i64 (k : Int), .bool true, .int .i64 (k : Int), .pointer (some ⟨g, k * 4, none⟩), .agg #[.int .i64 f.atoms[k].what, .slice sa f.atoms[k].s.length sc, .slice ta f.atoms[k].t.length tc, .int .i64 f.atoms[k].n], .pointer (some ⟨w.heap.size, 0, none⟩),
                .slice (some ⟨g, 0, none⟩) f.atoms.length c1, .int .i64 (k : Int), .pointer (some ⟨w.heap.size, 0, none⟩), .slice (some ⟨g, 0, none⟩) f.atoms.length c1, .int .i64 (k : Int), .pointer (some ⟨wr.heap.size, 1, none⟩), .slice sa f.atoms[k].s.length sc, .slice s1 f.atoms[k].s.length d1, .pointer (some ⟨wr.heap.size, 2, none⟩),
                .slice ta f.atoms[k].t.length tc, .slice s2 f.atoms[k].t.length d2, .pointer (some ⟨g, k * 4, none⟩), .pointer (some ⟨g, k * 4 + 1, none⟩), .pointer (some ⟨g, k * 4, none⟩), .pointer (some ⟨g, k * 4 + 2, none⟩), u37, undef], defers := [] }
                ((v2.setCell ⟨g, k * 4 + 1, none⟩ (.slice s1 f.atoms[k].s.length d1)).setCell ⟨g, k * 4 + 2, none⟩ (.slice s2 f.atoms[k].t.length d2)) := by
            intro v1 v2 s1 d1 s2 d2 m1 p1 m2 p2
            refine hK2 _ _ ?_
            have HP1 := Lib.hid p1
            have HP2 := Lib.hid p2
            have HM1 := Lib.hid m1
            have HM2 := Lib.hid m2
            clear p1 p2 m1 m2
            go_wp2
            go_roundw
            case rel =>
              have hl1 : V.heap.size ≤ v1.heap.size := HM1.out.size
              have hl2 := HM2.out.size
              have hb2 : Below wr.heap.size wr v2 := ((HBV.out.drew.trans (HM1.out.mono (by show _ ≤ V.heap.size; omega))).trans (HM2.out.mono (by omega)))
              have g1 := gb_set v2 g (k * 4 + 1) (.slice s1 f.atoms[k].s.length d1)
              have g2 := gb_set (v2.setCell ⟨g, k * 4 + 1, none⟩ (.slice s1 f.atoms[k].s.length d1)) g (k * 4 + 2) (.slice s2 f.atoms[k].t.length d2)
              have gW := gb_trans (gb_below (row := some g) hb2) (gb_trans g1 g2)
              have hnP : ¬ g < w.heap.size := by omega
              have hnQ : ¬ (w.heap.size + 2 ≤ g ∧ (Value.slice a2 f.code.length c2).ownBlock ≠ some g ∧ (Value.slice (some ⟨g, 0, none⟩) f.atoms.length c1).ownBlock ≠ some g) := fun h => h.2.2 rfl
              have t0 := (hb2.cell (p := ⟨g, k * 4, none⟩) q4).trans x0
              have t1 := (hb2.cell (p := ⟨g, k * 4 + 1, none⟩) q4).trans x1
              have t2 := (hb2.cell (p := ⟨g, k * 4 + 2, none⟩) q4).trans x3
              have t3 := (hb2.cell (p := ⟨g, k * 4 + 3, none⟩) q4).trans x5
              refine ⟨k + 1, by omega, by go_num, gb_trans HG.out gW, .inr ⟨g, c1, rfl, q1, q2, q3, Nat.lt_of_lt_of_le q4 gW.size, fun i => ?_, fun i hi hk' => ?_, fun i hi hk' => ?_⟩⟩
              · simpa using (hb2.frozen (p := ⟨g, i, none⟩) q4).trans (HF.out i)
              · exact (((H6.out i hi (by omega)).gb (row := none) (gb_below hb2) (by simp) (by simp)).set hnP (by omega) _).set hnP (by omega) _
              · by_cases hik : i < k
                · exact (((H7.out i hi hik).gb (row := none) (gb_below hb2) (by simp) (by simp)).set hnQ (by omega) _).set hnQ (by omega) _
                · obtain rfl : i = k := by omega
                  have hcb : ∀ q, V.heap.size ≤ q → (Value.slice a2 f.code.length c2).ownBlock ≠ some q := by
                    intro q hq
                    have hsz := HG.out.size
                    rcases HO3.out.form with ⟨h, _⟩ | ⟨g', cap', h, _, h', _⟩
                    · rw [h]; simp [Value.ownBlock]
                    · rw [h]; simp [Value.ownBlock]; omega
                  have gg := gb_trans g1 g2
                  have i1 := (((HP1.out.ints).below HM2.out).keep gg.size (fun k hk hp => gg.block k hk (by simp; have hp' : V.heap.size ≤ k := hp; omega))).weak (Q := fun k => w.heap.size + 2 ≤ k ∧ (Value.slice a2 f.code.length c2).ownBlock ≠ some k ∧ (Value.slice (some ⟨g, 0, none⟩) f.atoms.length c1).ownBlock ≠ some k)
                    (fun k hk hp => by have hp' : V.heap.size ≤ k := hp; exact ⟨by omega, hcb k hp', by simp [Value.ownBlock]; omega⟩)
                  have i2 := ((HP2.out.ints).keep gg.size (fun k hk hp => gg.block k hk (by simp; have hp' : v1.heap.size ≤ k := hp; omega))).weak (Q := fun k => w.heap.size + 2 ≤ k ∧ (Value.slice a2 f.code.length c2).ownBlock ≠ some k ∧ (Value.slice (some ⟨g, 0, none⟩) f.atoms.length c1).ownBlock ≠ some k)
                    (fun k hk hp => by have hp' : v1.heap.size ≤ k := hp; exact ⟨by omega, hcb k (by omega), by simp [Value.ownBlock]; omega⟩)
                  exact ⟨_, _, by rw [World.cell?_setCell_other _ _ _ _ (by simp), World.cell?_setCell_other _ _ _ _ (by simp)]; exact t0,
                    by rw [World.cell?_setCell_other _ _ _ _ (by simp)]; exact World.cell?_setCell_same' _ _ _ (by rw [t1]; rfl), i1,
                    World.cell?_setCell_same' _ _ _ (by rw [World.cell?_setCell_other _ _ _ _ (by simp), t2]; rfl), i2,
                    by rw [World.cell?_setCell_other _ _ _ _ (by simp), World.cell?_setCell_other _ _ _ _ (by simp)]; exact t3⟩
            case measure => simp [intOf]; omega
          have HKEY2 := Lib.hid KEY2
          clear KEY2
          have CS := Lib.hid (cloneI_any (P := fun k => k < w.heap.size) (.slice sa f.atoms[k].s.length sc) _ V.drew (HS.out.below HBV.out.drew) (by omega))
          have CT := Lib.hid (fun v1 (m1 : Below V.drew.heap.size V.drew v1) => cloneI_any (P := fun k => k < w.heap.size) (.slice ta f.atoms[k].t.length tc) _ v1 ((HT.out.below HBV.out.drew).below m1) (by omega))
          have CS' := CS.out
          have CT' := CT.out
          have hkI : (0 : Int) ≤ (k : Int) := by omega
          have hkJ : (k : Int) < (f.atoms.length : Int) := by omega
          have hg1 : g ≠ w.heap.size := by omega
          have hg2 : g ≠ wr.heap.size := by omega
          go_region_held3 (fun w' => w'.cell? ⟨w.heap.size, 0, none⟩ = some (.slice (some ⟨g, 0, none⟩) f.atoms.length c1) ∧ w'.cell? ⟨wr.heap.size, 1, none⟩ = some (.slice sa f.atoms[k].s.length sc) ∧ w'.cell? ⟨wr.heap.size, 2, none⟩ = some (.slice ta f.atoms[k].t.length tc)) (first | (exact ⟨y3, b5, b6⟩) | (exact ⟨y2, b3, b4⟩) | (exact ⟨y1, b1, b2⟩) | go_keep) (first | (go_at_call 132; (with_reducible refine Calls.mono CS' ?_); rintro e v1 ⟨s1, d1, rfl, p1, m1⟩; have y2 : v1.cell? ⟨w.heap.size, 0, none⟩ = some (.slice (some ⟨g, 0, none⟩) f.atoms.length c1) := ((m1.cell (p := ⟨w.heap.size, 0, none⟩) (by show w.heap.size < V.heap.size; omega)).trans y1); have b3 : v1.cell? ⟨wr.heap.size, 1, none⟩ = some (.slice sa f.atoms[k].s.length sc) := ((m1.cell (p := ⟨wr.heap.size, 1, none⟩) (by show wr.heap.size < V.heap.size; omega)).trans b1); have b4 : v1.cell? ⟨wr.heap.size, 2, none⟩ = some (.slice ta f.atoms[k].t.length tc) := ((m1.cell (p := ⟨wr.heap.size, 2, none⟩) (by show wr.heap.size < V.heap.size; omega)).trans b2)) | (go_at_call 132; (with_reducible refine Calls.mono (CT' v1 m1) ?_); rintro e v2 ⟨s2, d2, rfl, p2, m2⟩; have l1 : V.heap.size ≤ v1.heap.size := m1.size; have hb2 : Below wr.heap.size wr v2 := ((HBV.out.drew.trans (m1.mono (by show _ ≤ V.heap.size; omega))).trans (m2.mono (by omega))); have y3 : v2.cell? ⟨w.heap.size, 0, none⟩ = some (.slice (some ⟨g, 0, none⟩) f.atoms.length c1) := ((hb2.cell (p := ⟨w.heap.size, 0, none⟩) (by simp; omega)).trans y0); have b5 : v2.cell? ⟨wr.heap.size, 1, none⟩ = some (.slice sa f.atoms[k].s.length sc) := ((m2.cell (p := ⟨wr.heap.size, 1, none⟩) (by simp; omega)).trans b3); have b6 : v2.cell? ⟨wr.heap.size, 2, none⟩ = some (.slice ta f.atoms[k].t.length tc) := ((m2.cell (p := ⟨wr.heap.size, 2, none⟩) (by simp; omega)).trans b4); have t1 := (hb2.cell (p := ⟨g, k * 4 + 1, none⟩) q4).trans x1; have t2 := (hb2.cell (p := ⟨g, k * 4 + 2, none⟩) q4).trans x3; have u1 := (hb2.frozen (p := ⟨g, k * 4 + 1, none⟩) q4).trans f1; have u2 := (hb2.frozen (p := ⟨g, k * 4 + 2, none⟩) q4).trans f2))
          all_goals exact HKEY2.out _ _ _ _ _ _ m1 p1 m2 p2
      · have hkn : k = f.atoms.length := by omega
        subst hkn
        have hne : ∀ q, q < W0.heap.size → some q ≠ (Value.slice a1 f.atoms.length c1).ownBlock := by
          intro q hq
          rcases hP with ⟨h, _⟩ | ⟨g, cap, h, _, _, q3, _⟩
          · rw [h]; simp [Value.ownBlock]
          · rw [h]; simp [Value.ownBlock]; omega
        have hzr := hG.size
        have y0 := hG.cell r0 (hne _ (by simp; omega))
        have y1 := hG.cell r1 (hne _ (by simp; omega))
        have kr := (hG.block (w.heap.size + 1) (by omega) (hne _ (by omega))).trans k13
        have d0 : wr.cell? ⟨w.heap.size + 1, 0, none⟩ = some (.slice none 0 0) := by simp [World.cell?, kr]
        have d1 : wr.cell? ⟨w.heap.size + 1, 1, none⟩ = some (.slice none 0 0) := by simp [World.cell?, kr]
        have e0 : wr.frozen? ⟨w.heap.size + 1, 0, none⟩ = false := by simp [World.frozen?, kr]
        have e1 : wr.frozen? ⟨w.heap.size + 1, 1, none⟩ = false := by simp [World.frozen?, kr]
        have HG := Lib.hid hG
        have HPr := Lib.hid hP
        have HNq := Lib.hid hne
        clear hG hP hne
        go_wp2
        have gg := gb_trans (gb_set wr (w.heap.size + 1) 0 (.slice a1 f.atoms.length c1)) (gb_set (wr.setCell ⟨w.heap.size + 1, 0, none⟩ (.slice a1 f.atoms.length c1)) (w.heap.size + 1) 1 (.slice a2 f.code.length c2))
        obtain ⟨W5, hW5⟩ : ∃ W5, (wr.setCell ⟨w.heap.size + 1, 0, none⟩ (.slice a1 f.atoms.length c1)).setCell ⟨w.heap.size + 1, 1, none⟩ (.slice a2 f.code.length c2) = W5 := ⟨_, rfl⟩
        have z0 : W5.cell? ⟨w.heap.size + 1, 0, none⟩ = some (.slice a1 f.atoms.length c1) := by rw [← hW5, World.cell?_setCell_other _ _ _ _ (by simp)]; exact World.cell?_setCell_same' _ _ _ (by rw [d0]; rfl)
        have z1 : W5.cell? ⟨w.heap.size + 1, 1, none⟩ = some (.slice a2 f.code.length c2) := by rw [← hW5]; exact World.cell?_setCell_same' _ _ _ (by rw [World.cell?_setCell_other _ _ _ _ (by simp), d1]; rfl)
        have hBl : Below w.heap.size w W5 := by
          rw [← hW5]
          exact ((HB3.out.trans ⟨HG.out.os, HG.out.tape, HG.out.output, HG.out.size, fun q hq => HG.out.block q (by omega) (HNq.out q (by omega))⟩).setCell (p := ⟨w.heap.size + 1, 0, none⟩) (by simp) _).setCell (p := ⟨w.heap.size + 1, 1, none⟩) (by simp) _
        rw [hW5] at gg ⊢
        refine bodyPost_ret (v := .agg #[.slice a1 f.atoms.length c1, .slice a2 f.code.length c2]) (by simp [results, Tryz.results108, go_sem, z0, z1]) rfl ⟨_, a2, c2, rfl, ?_, ?_, hBl⟩
        · rcases HPr.out with ⟨h, h'⟩ | ⟨g, cap, h, p1, p2, p3, p4, p5, p6, p7⟩
          · exact .inl ⟨none, h, h'⟩
          · refine .inr ⟨g, 0, cap, h, p1, p2, ⟨by omega, ?_⟩, Nat.lt_of_lt_of_le p4 gg.size, fun i hi => ?_⟩
            · rcases HNE.out with h2 | h2
              · rw [h2]; simp
              · rw [h] at h2; exact h2
            · rw [Nat.zero_add]
              exact ((p7 i hi hi).gb gg (by simp; omega) (fun k hk => by simp; omega)).weak (fun k _ hk => ⟨by omega, hk.2.1⟩)
        · refine ((HO3.out.gb HG.out HNE.out).gb gg ?_).base (by omega)
          rcases HO3.out.form with ⟨h, _⟩ | ⟨g', cap', h, hB', _⟩
          · rw [h]; exact .inl rfl
          · rw [h]; exact .inr (by simp [Value.ownBlock]; omega)
  have HKEY := Lib.hid KEY
  clear KEY
  go_region_law (first | (go_simp; go_at_call 174; refine (cloneA_any (P := fun k => k < w.heap.size) _ _ W0.drew HA0.out (by omega)).mono ?_; rintro e w1 ⟨a1, c1, rfl, ho1, hb1⟩; have k01 := (hb1.block w.heap.size (by show w.heap.size < W0.heap.size; omega)).trans k0; have c1' : w1.cell? ⟨w.heap.size, 1, none⟩ = some (.slice co f.code.length ccap) := by simp [World.cell?, k01]) | (go_simp; go_at_call 132; refine (cloneI_any (P := P) _ _ w1 (Ints.below (w := W0.drew) HC0.out hb1) (by omega)).mono ?_; rintro e w2 ⟨a2, c2, rfl, ho2, hb2⟩; have k02 := (hb2.block w.heap.size (by have := hb1.size; have : W0.heap.size ≤ w1.heap.size := this; omega)).trans k01; have d0 : w2.cell? ⟨w.heap.size, 0, none⟩ = some (.slice ao f.atoms.length acap) := (by simp [World.cell?, k02]); have d1 : w2.cell? ⟨w.heap.size, 1, none⟩ = some (.slice co f.code.length ccap) := (by simp [World.cell?, k02]); have e0 : w2.frozen? ⟨w.heap.size, 0, none⟩ = false := (by simp [World.frozen?, k02]); have e1 : w2.frozen? ⟨w.heap.size, 1, none⟩ = false := (by simp [World.frozen?, k02])))
  all_goals exact HKEY.out _ _ _ _ _ _ ho1 hb1 ho2 hb2
end Go.Proofs.YtpfinfneclmjkaaGreatDoor
