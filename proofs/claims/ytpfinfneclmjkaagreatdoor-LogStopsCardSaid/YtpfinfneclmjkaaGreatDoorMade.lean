/- Package fields: the world of so many in each. Condition: the counts are small. -/
import Derived.Test.YtpfinfneclmjkaaGreatDoorFit
import Derived.Test.YtpfinfneclmjkaaGreatDoorPlain5
import Derived.RegionTactic
import Derived.BigRegion
namespace Go.Proofs.YtpfinfneclmjkaaGreatDoor
open Go.RowKit V

theorem idx8 (n0 n1 n2 n3 n4 n5 n6 n7 : Int) (w : World) : ∀ (k : Nat) (hk : k < 8), (Instr.index 44 (.agg #[.int .i64 n0, .int .i64 n1, .int .i64 n2, .int .i64 n3, .int .i64 n4, .int .i64 n5, .int .i64 n6, .int .i64 n7]) (.int .i64 (k : Int))).run Tryz.prog w =
    .ok (.int .i64 ([n0, n1, n2, n3, n4, n5, n6, n7][k]'(by simpa using hk))) w
  | 0, _ | 1, _ | 2, _ | 3, _ | 4, _ | 5, _ | 6, _ | 7, _ => by kernel_rfl

theorem drop_cons8 {α : Type} (l : List α) (k : Nat) (h : k < l.length) : l.drop k = l[k] :: l.drop (k + 1) := List.drop_eq_getElem_cons h
theorem and1_tab : ∀ f : Fin 8, bits .and .i64 ((f.val : Nat) : Int) 1 = ((f.val % 2 : Nat) : Int) := by decide +kernel
theorem or_tab : ∀ v : Fin 2, ∀ t : Fin 6, ∀ a : Fin 64, a.val < 2 ^ t.val → bits .or .i64 ((a.val : Nat) : Int) (wrap64 (((v.val : Nat) : Int) * 2 ^ t.val)) = ((a.val + v.val * 2 ^ t.val : Nat) : Int) := by decide +kernel
theorem bit_step {f g j : Nat} {t a : Int} (hf : f < 8) (hg : g = f / 2 ^ j) (ht0 : 0 ≤ t) (ht5 : t ≤ 5) (ha0 : 0 ≤ a) (ha1 : a < pow2 t) :
    bits .or .i64 a (wrap64 (bits .and .i64 (g : Int) 1 * 2 ^ t.toNat)) = a + bitF f j * pow2 t := by
  have hp := pow2_bd ht0 (by omega)
  obtain ⟨n, rfl⟩ := Int.eq_ofNat_of_zero_le ha0
  obtain ⟨m, rfl⟩ := Int.eq_ofNat_of_zero_le ht0
  have hg8 : g < 8 := by rw [hg]; exact Nat.lt_of_le_of_lt (Nat.div_le_self _ _) hf
  rw [and1_tab ⟨g, hg8⟩]
  have hn : n < 2 ^ m := by have := ha1; unfold pow2 at this; simp only [Int.toNat_natCast] at this; exact_mod_cast this
  have := or_tab ⟨g % 2, by omega⟩ ⟨m, by omega⟩ ⟨n, by omega⟩ hn
  simp only [Int.toNat_natCast] at this ⊢
  rw [this, hg]
  unfold bitF pow2
  simp only [Int.toNat_natCast]
  exact_mod_cast rfl
def WBlk (w : World) (B : Nat) (x : Wd) : Prop := w.heap[B]? = some (.cells #[.int .i64 x.things, .int .i64 x.a, .int .i64 x.b, .int .i64 x.c] 34 (0, 0))

theorem WBlk.s0 {w : World} {B : Nat} {t a b c : Int} (h : WBlk w B ⟨t, a, b, c⟩) (v : Int) : WBlk (w.setCell ⟨B, 0, none⟩ (.int .i64 v)) B ⟨v, a, b, c⟩ := by unfold WBlk at h ⊢; simp [World.setCell, Array.getElem?_modify, h]
theorem WBlk.s1 {w : World} {B : Nat} {t a b c : Int} (h : WBlk w B ⟨t, a, b, c⟩) (v : Int) : WBlk (w.setCell ⟨B, 1, none⟩ (.int .i64 v)) B ⟨t, v, b, c⟩ := by unfold WBlk at h ⊢; simp [World.setCell, Array.getElem?_modify, h]
theorem WBlk.s2 {w : World} {B : Nat} {t a b c : Int} (h : WBlk w B ⟨t, a, b, c⟩) (v : Int) : WBlk (w.setCell ⟨B, 2, none⟩ (.int .i64 v)) B ⟨t, a, v, c⟩ := by unfold WBlk at h ⊢; simp [World.setCell, Array.getElem?_modify, h]
theorem WBlk.s3 {w : World} {B : Nat} {t a b c : Int} (h : WBlk w B ⟨t, a, b, c⟩) (v : Int) : WBlk (w.setCell ⟨B, 3, none⟩ (.int .i64 v)) B ⟨t, a, b, v⟩ := by unfold WBlk at h ⊢; simp [World.setCell, Array.getElem?_modify, h]
theorem WBlk.drew {w : World} {B : Nat} {x : Wd} (h : WBlk w B x) : WBlk w.drew B x := h

set_option maxHeartbeats 4000000 in
set_option maxRecDepth 100000 in
theorem made_any (n0 n1 n2 n3 n4 n5 n6 n7 : Int) (w : World) (hg : goodB [n0, n1, n2, n3, n4, n5, n6, n7] = true) :
    Calls Tryz.prog 92 #[.agg #[.int .i64 n0, .int .i64 n1, .int .i64 n2, .int .i64 n3, .int .i64 n4, .int .i64 n5, .int .i64 n6, .int .i64 n7]] w fun e w' =>
      e = .returned (.agg #[.int .i64 (made [n0, n1, n2, n3, n4, n5, n6, n7]).things, .int .i64 (made [n0, n1, n2, n3, n4, n5, n6, n7]).a, .int .i64 (made [n0, n1, n2, n3, n4, n5, n6, n7]).b, .int .i64 (made [n0, n1, n2, n3, n4, n5, n6, n7]).c]) ∧ Below w.heap.size w w' := by
  obtain ⟨l, hl⟩ : ∃ l, l = [n0, n1, n2, n3, n4, n5, n6, n7] := ⟨_, rfl⟩
  have HI : ∀ (w : World) k (hk : k < l.length), (Instr.index 44 (.agg #[.int .i64 n0, .int .i64 n1, .int .i64 n2, .int .i64 n3, .int .i64 n4, .int .i64 n5, .int .i64 n6, .int .i64 n7]) (.int .i64 (k : Int))).run Tryz.prog w = .ok (.int .i64 l[k]) w := by
    subst hl; exact fun w k hk => idx8 n0 n1 n2 n3 n4 n5 n6 n7 w k hk
  have hlen : l.length = 8 := by rw [hl]; rfl
  rw [← hl] at hg ⊢
  have HL := Lib.hid hl
  have HII := Lib.hid HI
  clear hl HI
  go_enter Tryz.func92, Tryz.ntmps92
  go_wp2
  go_loopw [8] (fun i wr => ∃ (f : Nat) (x : Wd), f ≤ 8 ∧ i = .int .i64 (f : Int) ∧ WBlk wr (w.heap.size + 2) x ∧ (∃ m, WdIn x m ∧ m + sumL (l.drop f) ≤ 6) ∧ madeFrom x f (l.drop f) = made l ∧ Below (w.heap.size + 2) ((w.alloc (.cells #[.int .i64 n0, .int .i64 n1, .int .i64 n2, .int .i64 n3, .int .i64 n4, .int .i64 n5, .int .i64 n6, .int .i64 n7] 44)).alloc (.cells #[.int .i64 0, .int .i64 0, .int .i64 0, .int .i64 0] 34)) wr)
    (fun i _ => 8 - (intOf i).toNat)
  case atStart =>
    refine ⟨0, ⟨0, 0, 0, 0⟩, by omega, rfl, (by unfold WBlk; rw [show w.heap.size + 2 = ((w.alloc (.cells #[.int .i64 n0, .int .i64 n1, .int .i64 n2, .int .i64 n3, .int .i64 n4, .int .i64 n5, .int .i64 n6, .int .i64 n7] 44)).alloc (.cells #[.int .i64 0, .int .i64 0, .int .i64 0, .int .i64 0] 34)).heap.size by simp]; exact heap_alloc_new _ _), ⟨0, by unfold WdIn; decide, ?_⟩, rfl, (Below.refl _ _).alloc (by simp) _⟩
    have h := hg
    simp only [goodB, Bool.and_eq_true, decide_eq_true_eq] at h
    simpa using h.2
  case round =>
    obtain ⟨f, x, hf, rfl, hblk, ⟨m, hxm, hms⟩, hmade, hB⟩ := hrel
    by_cases hlt : f < 8
    · have hidx := HII.out wr f (by omega)
      obtain ⟨nk, hnk⟩ : ∃ nk, nk = l[f]'(by omega) := ⟨_, rfl⟩
      rw [← hnk] at hidx
      have HNK := Lib.hid hnk
      have HMADE := Lib.hid hmade
      have hd : l.drop f = nk :: l.drop (f + 1) := by rw [hnk]; exact drop_cons8 _ _ (by omega)
      have HDR := Lib.hid hd
      have hgg := good_all hg
      have hnk0 : 0 ≤ nk ∧ m + nk ≤ 6 := by
        have h1 := hgg nk (by rw [hnk]; exact List.getElem_mem _)
        have h2 := sumL_nonneg (l := l.drop (f + 1)) (fun z hz => hgg z (List.mem_of_mem_drop hz))
        have hms' := hms
        rw [hd, sumL_cons] at hms'
        omega
      have HGG := Lib.hid hgg
      have HMS := Lib.hid hms
      clear hnk hmade hd hgg hms
      go_wp2
      obtain ⟨wo, hwo⟩ : ∃ wo : World, wo = wr := ⟨_, rfl⟩
      rw [← hwo]
      rw [← hwo] at hblk hB hidx
      clear hwo
      go_loopw [13] (fun j wj => ∃ (k : Nat), (k : Int) ≤ nk ∧ j = .int .i64 (k : Int) ∧ WBlk wj (w.heap.size + 2) (addTimes x f k) ∧ Below (w.heap.size + 2) wo wj)
        (fun j _ => nk.toNat - (intOf j).toNat)
      case atStart => exact ⟨0, by omega, rfl, hblk, Below.refl _ _⟩
      case round =>
        obtain ⟨k, hk, rfl, hblk2, hB2⟩ := hrel
        by_cases hltk : (k : Int) < nk
        · have hy := addTimes_in hxm f k (by omega)
          obtain ⟨y, hye⟩ : ∃ y, y = addTimes x f k := ⟨_, rfl⟩
          rw [← hye] at hy hblk2
          have HYE := Lib.hid hye
          clear hye
          obtain ⟨t, ya, yb, yc⟩ := y
          obtain ⟨ht, ht0, ht6, ha0, ha1, hb0, hb1, hc0, hc1⟩ := hy
          simp only at ht ha0 ha1 hb0 hb1 hc0 hc1
          rw [← ht] at ht0 ht6 ha1 hb1 hc1
          have ht5 : t ≤ 5 := by omega
          have hm0 : 0 ≤ m := hxm.2.1
          have hk6 : (k : Int) ≤ 6 := by omega
          have HTE := Lib.hid ht
          clear ht
          go_wp2
          obtain ⟨wj, hwj⟩ : ∃ wj : World, wj = wr := ⟨_, rfl⟩
          rw [← hwj]
          rw [← hwj] at hblk2 hB2
          clear hwj
          go_loopw [15] (fun q wq => Below (w.heap.size + 2) wj wq ∧ ((q = .int .i64 0 ∧ WBlk wq (w.heap.size + 2) ⟨t, ya, yb, yc⟩) ∨ (q = .int .i64 1 ∧ WBlk wq (w.heap.size + 2) ⟨t, ya + bitF f 0 * pow2 t, yb, yc⟩) ∨
              (q = .int .i64 2 ∧ WBlk wq (w.heap.size + 2) ⟨t, ya + bitF f 0 * pow2 t, yb + bitF f 1 * pow2 t, yc⟩) ∨ (q = .int .i64 3 ∧ WBlk wq (w.heap.size + 2) ⟨t, ya + bitF f 0 * pow2 t, yb + bitF f 1 * pow2 t, yc + bitF f 2 * pow2 t⟩)))
            (fun q _ => 3 - (intOf q).toNat)
          case atStart => exact ⟨Below.refl _ _, .inl ⟨rfl, hblk2⟩⟩
          case round =>
            obtain ⟨hB3, ⟨rfl, hb⟩ | ⟨rfl, hb⟩ | ⟨rfl, hb⟩ | ⟨rfl, hb⟩⟩ := hrel
            · have c0 : wr.cell? ⟨w.heap.size + 1 + 1, 0, none⟩ = some (.int .i64 t) := by have h := hb; unfold WBlk at h; simp [World.cell?, h]
              have c1 : wr.cell? ⟨w.heap.size + 1 + 1, 1, none⟩ = some (.int .i64 ya) := by have h := hb; unfold WBlk at h; simp [World.cell?, h]
              have z1 : wr.frozen? ⟨w.heap.size + 1 + 1, 1, none⟩ = false := by have h := hb; unfold WBlk at h; simp [World.frozen?, h]
              have HB := Lib.hid hb
              have HB3 := Lib.hid hB3
              have HBS := Lib.hid (bit_step (f := f) (g := f / 2 ^ 0) (j := 0) hlt rfl ht0 ht5 ha0 ha1)
              clear hb hB3
              go_wp2
              go_region
              go_wp2
              go_roundw
              case rel =>
                refine ⟨(HB3.out.setCell (p := ⟨w.heap.size + 2, 1, none⟩) (Nat.le_refl _) _).drew, .inr (.inl ⟨rfl, ?_⟩)⟩
                have e := HBS.out
                simp at e
                rw [← e]
                exact (HB.out.s1 _).drew
              case measure => simp [intOf]
            · have c0 : wr.cell? ⟨w.heap.size + 1 + 1, 0, none⟩ = some (.int .i64 t) := by have h := hb; unfold WBlk at h; simp [World.cell?, h]
              have c1 : wr.cell? ⟨w.heap.size + 1 + 1, 2, none⟩ = some (.int .i64 yb) := by have h := hb; unfold WBlk at h; simp [World.cell?, h]
              have z1 : wr.frozen? ⟨w.heap.size + 1 + 1, 2, none⟩ = false := by have h := hb; unfold WBlk at h; simp [World.frozen?, h]
              have HB := Lib.hid hb
              have HB3 := Lib.hid hB3
              have HBS := Lib.hid (bit_step (f := f) (g := f / 2 ^ 1) (j := 1) hlt rfl ht0 ht5 hb0 hb1)
              clear hb hB3
              go_wp2
              go_region
              go_wp2
              go_roundw
              case rel =>
                refine ⟨(HB3.out.setCell (p := ⟨w.heap.size + 2, 2, none⟩) (Nat.le_refl _) _).drew, .inr (.inr (.inl ⟨rfl, ?_⟩))⟩
                have e := HBS.out
                simp at e
                rw [← e]
                exact (HB.out.s2 _).drew
              case measure => simp [intOf]
            · have c0 : wr.cell? ⟨w.heap.size + 1 + 1, 0, none⟩ = some (.int .i64 t) := by have h := hb; unfold WBlk at h; simp [World.cell?, h]
              have c1 : wr.cell? ⟨w.heap.size + 1 + 1, 3, none⟩ = some (.int .i64 yc) := by have h := hb; unfold WBlk at h; simp [World.cell?, h]
              have z1 : wr.frozen? ⟨w.heap.size + 1 + 1, 3, none⟩ = false := by have h := hb; unfold WBlk at h; simp [World.frozen?, h]
              have HB := Lib.hid hb
              have HB3 := Lib.hid hB3
              have HBS := Lib.hid (bit_step (f := f) (g := f / 2 ^ 2) (j := 2) hlt rfl ht0 ht5 hc0 hc1)
              clear hb hB3
              go_wp2
              go_region
              go_wp2
              go_roundw
              case rel =>
                refine ⟨(HB3.out.setCell (p := ⟨w.heap.size + 2, 3, none⟩) (Nat.le_refl _) _).drew, .inr (.inr (.inr ⟨rfl, ?_⟩))⟩
                have e := HBS.out
                simp at e
                rw [← e]
                exact (HB.out.s3 _).drew
              case measure => simp [intOf]
            · have c0 : wr.cell? ⟨w.heap.size + 1 + 1, 0, none⟩ = some (.int .i64 t) := by have h := hb; unfold WBlk at h; simp [World.cell?, h]
              have z0 : wr.frozen? ⟨w.heap.size + 1 + 1, 0, none⟩ = false := by have h := hb; unfold WBlk at h; simp [World.frozen?, h]
              have HB := Lib.hid hb
              have HB3 := Lib.hid hB3
              clear hb hB3
              go_wp2
              go_roundw
              case rel =>
                refine ⟨k + 1, by omega, by go_num, ?_, (hB2.trans HB3.out).setCell (p := ⟨w.heap.size + 2, 0, none⟩) (Nat.le_refl _) _⟩
                have e : addTimes x f (k + 1) = ⟨t + 1, ya + bitF f 0 * pow2 t, yb + bitF f 1 * pow2 t, yc + bitF f 2 * pow2 t⟩ := by rw [addTimes, ← HYE.out]; rfl
                rw [e]
                exact HB.out.s0 _
              case measure => simp [intOf]; omega
        · have hkk : (k : Int) = nk := by omega
          have HKK := Lib.hid hkk
          have HB2 := Lib.hid hblk2
          clear hkk hblk2
          go_wp2
          go_roundw
          case rel =>
            have hkt : nk.toNat = k := by have := HKK.out; omega
            have hd := HDR.out
            refine ⟨f + 1, addTimes x f k, by omega, by go_num, HB2.out, ⟨m + k, addTimes_in hxm f k (by omega), ?_⟩, ?_, hB.trans hB2⟩
            · have hms := HMS.out; rw [hd, sumL_cons] at hms; have := HKK.out; omega
            · have h := HMADE.out; rw [hd] at h; unfold madeFrom at h; rw [hkt] at h; exact h
          case measure => simp [intOf]; omega
    · have hf8 : f = 8 := by omega
      have HX := Lib.hid (show x = made l by rw [← hmade, List.drop_eq_nil_of_le (by omega)]; rfl)
      have c0 : wr.cell? ⟨w.heap.size + 1 + 1, 0, none⟩ = some (.int .i64 x.things) := by have h := hblk; unfold WBlk at h; simp [World.cell?, h]
      have c1 : wr.cell? ⟨w.heap.size + 1 + 1, 1, none⟩ = some (.int .i64 x.a) := by have h := hblk; unfold WBlk at h; simp [World.cell?, h]
      have c2 : wr.cell? ⟨w.heap.size + 1 + 1, 2, none⟩ = some (.int .i64 x.b) := by have h := hblk; unfold WBlk at h; simp [World.cell?, h]
      have c3 : wr.cell? ⟨w.heap.size + 1 + 1, 3, none⟩ = some (.int .i64 x.c) := by have h := hblk; unfold WBlk at h; simp [World.cell?, h]
      have d0 : wr.cell? ⟨w.heap.size + 1, 0, none⟩ = some (.int .i64 0) := (hB.cell (p := ⟨w.heap.size + 1, 0, none⟩) (by simp)).trans (by rw [World.cell?_alloc_at _ _ _ _ (by simp)]; rfl)
      have f0 : wr.frozen? ⟨w.heap.size + 1, 0, none⟩ = false := (hB.frozen (p := ⟨w.heap.size + 1, 0, none⟩) (by simp)).trans (by rw [World.frozen?_alloc_at _ _ _ _ (by simp)])
      have d1 : wr.cell? ⟨w.heap.size + 1, 1, none⟩ = some (.int .i64 0) := (hB.cell (p := ⟨w.heap.size + 1, 1, none⟩) (by simp)).trans (by rw [World.cell?_alloc_at _ _ _ _ (by simp)]; rfl)
      have f1 : wr.frozen? ⟨w.heap.size + 1, 1, none⟩ = false := (hB.frozen (p := ⟨w.heap.size + 1, 1, none⟩) (by simp)).trans (by rw [World.frozen?_alloc_at _ _ _ _ (by simp)])
      have d2 : wr.cell? ⟨w.heap.size + 1, 2, none⟩ = some (.int .i64 0) := (hB.cell (p := ⟨w.heap.size + 1, 2, none⟩) (by simp)).trans (by rw [World.cell?_alloc_at _ _ _ _ (by simp)]; rfl)
      have f2 : wr.frozen? ⟨w.heap.size + 1, 2, none⟩ = false := (hB.frozen (p := ⟨w.heap.size + 1, 2, none⟩) (by simp)).trans (by rw [World.frozen?_alloc_at _ _ _ _ (by simp)])
      have d3 : wr.cell? ⟨w.heap.size + 1, 3, none⟩ = some (.int .i64 0) := (hB.cell (p := ⟨w.heap.size + 1, 3, none⟩) (by simp)).trans (by rw [World.cell?_alloc_at _ _ _ _ (by simp)]; rfl)
      have f3 : wr.frozen? ⟨w.heap.size + 1, 3, none⟩ = false := (hB.frozen (p := ⟨w.heap.size + 1, 3, none⟩) (by simp)).trans (by rw [World.frozen?_alloc_at _ _ _ _ (by simp)])
      have HB := Lib.hid hB
      have HBK := Lib.hid hblk
      clear hmade hB hblk hms hxm hf8
      go_wp2
      refine bodyPost_ret (v := .agg #[.int .i64 x.things, .int .i64 x.a, .int .i64 x.b, .int .i64 x.c]) (by simp [results, Tryz.results92, go_sem, d0, d1, d2, d3]) rfl ⟨by rw [HX.out], ?_⟩
      refine Below.setCell (p := ⟨w.heap.size + 1, 3, none⟩) (Below.setCell (p := ⟨w.heap.size + 1, 2, none⟩) (Below.setCell (p := ⟨w.heap.size + 1, 1, none⟩) (Below.setCell (p := ⟨w.heap.size + 1, 0, none⟩) (((((Below.refl _ _).alloc (Nat.le_refl _) _).alloc (by simp) _)).trans (HB.out.mono (by omega))) (by simp) _) (by simp) _) (by simp) _) (by simp) _
end Go.Proofs.YtpfinfneclmjkaaGreatDoor
