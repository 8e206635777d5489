/- log.Alone: a formula of one atom. Condition: the atom lies; its terms are no longer than a thousand. -/
import Derived.Test.YtpfinfneclmjkaaGreatDoorFormOwn
import Derived.Test.YtpfinfneclmjkaaGreatDoorOwnF
import Derived.Test.YtpfinfneclmjkaaGreatDoorAloneP
namespace Go.Proofs.YtpfinfneclmjkaaGreatDoor
open Go.RowKit V

set_option maxRecDepth 100000 in
theorem alone_any {P : Nat → Prop} (vs vt : Value) (a : At) (b : Bool) (w : World) (hs : Ints P w vs a.s) (ht : Ints P w vt a.t) (hl : a.s.length ≤ 1000 ∧ a.t.length ≤ 1000) :
    Calls Tryz.prog 103 #[.agg #[.int .i64 a.what, vs, vt, .int .i64 a.n], .bool b] w fun e w' => ∃ va vc, e = .returned (.agg #[va, vc]) ∧ FmV (fun k => w.heap.size ≤ k) w' va vc (aloneF a b) ∧ Below w.heap.size w w' := by
  obtain ⟨sa, sc, rfl⟩ := hs.form
  obtain ⟨ta, tc, rfl⟩ := ht.form
  have HS := Lib.hid (hs.weak (Q := fun _ => True) fun _ _ _ => trivial)
  have HT := Lib.hid (ht.weak (Q := fun _ => True) fun _ _ _ => trivial)
  clear hs ht
  go_enter Tryz.func103, Tryz.ntmps103
  go_wp2_with fail
  obtain ⟨W0, hW0⟩ : ∃ W0, ((((w.alloc (.cells #[.int .i64 a.what, .slice sa a.s.length sc, .slice ta a.t.length tc, .int .i64 a.n] 50)).alloc (.cells #[.slice none 0 0, .slice none 0 0] 25)).alloc (.cells #[.int .i64 a.what, .slice sa a.s.length sc, .slice ta a.t.length tc, .int .i64 a.n] 50)).alloc (.cells #[.int .i64 0] 3)) = W0 := ⟨_, rfl⟩
  have hz : W0.heap.size = w.heap.size + 4 := by rw [← hW0]; simp
  have hb0 : Below w.heap.size w W0 := by rw [← hW0]; exact ((((Below.refl _ _).alloc (Nat.le_refl _) _).alloc (by simp) _).alloc (by simp; omega) _).alloc (by simp; omega) _
  have k3 : W0.heap[w.heap.size + 3]? = some (.cells #[.int .i64 0] 3 (0, 0)) := by rw [← hW0]; exact blk_new _ _ _ (by simp)
  have k2 : W0.heap[w.heap.size + 2]? = some (.cells #[.int .i64 a.what, .slice sa a.s.length sc, .slice ta a.t.length tc, .int .i64 a.n] 50 (0, 0)) := by
    rw [← hW0, blk_old _ _ _ (by simp)]; exact blk_new _ _ _ (by simp)
  have k1 : W0.heap[w.heap.size + 1]? = some (.cells #[.slice none 0 0, .slice none 0 0] 25 (0, 0)) := by
    rw [← hW0, blk_old _ _ _ (by simp), blk_old _ _ _ (by simp)]; exact blk_new _ _ _ (by simp)
  rw [hW0]
  have HW0 := Lib.hid hW0
  clear hW0
  have hAt : Ats (fun _ => True) W0 (.slice (some ⟨w.heap.size + 2, 0, none⟩) 1 1) [a] :=
    .inr ⟨w.heap.size + 2, 0, 1, rfl, by simp, by unfold maxLen; omega, trivial, by omega, fun i hi => by
      obtain rfl : i = 0 := by simpa using hi
      exact ⟨_, _, cell_blk k2 rfl, cell_blk k2 rfl, HS.out.below hb0, cell_blk k2 rfl, HT.out.below hb0, cell_blk k2 rfl⟩⟩
  have hCo : Ints (fun _ => True) W0 (.slice (some ⟨w.heap.size + 3, 0, none⟩) 1 1) [0] :=
    .inr ⟨w.heap.size + 3, 0, 1, rfl, by simp, by unfold maxLen; omega, trivial, by omega, fun i hi => by
      obtain rfl : i = 0 := by simpa using hi
      exact cell_blk k3 rfl⟩
  refine (own_any (P := fun _ => True) _ _ ⟨[a], [0]⟩ W0 ⟨hAt, hCo⟩ (by simp) (by simp) (by simpa using hl)).mono ?_
  rintro e w1 ⟨va, ac, cc, rfl, hA, hC, hb1⟩
  simp only [List.length_cons, List.length_nil, Nat.zero_add] at hA hC
  obtain ⟨vo, vcap, rfl⟩ := hA.form
  simp only [List.length_cons, List.length_nil, Nat.zero_add] at hA
  have k1' := (hb1.block (w.heap.size + 1) (by omega)).trans k1
  have hz1 := hb1.size
  have HA := Lib.hid hA
  have HC := Lib.hid hC
  have HB := Lib.hid (hb0.trans (hb1.mono (by omega)))
  clear hA hC hb1 hAt hCo k3 k2 k1 hb0
  have hown : (Value.slice ac 1 cc).ownBlock = none ∨ ∃ q, (Value.slice ac 1 cc).ownBlock = some q ∧ W0.heap.size ≤ q ∧ q < w1.heap.size := by
    rcases HC.out.form with ⟨h, _⟩ | ⟨g', cap', h, h1, h2, _⟩
    · rw [h]; exact .inl rfl
    · rw [h]; exact .inr ⟨g', rfl, h1, h2⟩
  have HN : Hid (∀ k, k < W0.heap.size ∨ w1.heap.size ≤ k → some k ≠ (Value.slice ac 1 cc).ownBlock) := Lib.hid fun k hk => by
    rcases hown with h | ⟨q, h, h1, h2⟩
    · rw [h]; simp
    · rw [h]; simp; omega
  clear hown
  cases b
  · have K1 := Lib.hid k1'
    clear k1'
    go_wp2_with (at_builtin; refine app_int rfl _ _ rfl W0.heap.size [0] _ rfl ((HC.out.alloc _).alloc _) ⟨w1.heap.size + 1, 0, none⟩ 1 12 rfl ?c1 ?c2 ?c3 ?_)
    case c1 => simp
    case c2 => simp
    case c3 => simp; omega
    intro g cap w2 hO hg hb2 hs2 hblk
    have hs2 : w1.heap.size + 2 ≤ w2.heap.size := by simpa using hs2
    have hblk : ∀ k, k < w1.heap.size + 2 → some k ≠ (Value.slice ac 1 cc).ownBlock → w2.heap[k]? = ((w1.alloc (.cells #[.slice vo 1 vcap, .slice ac 1 cc] 25)).alloc (.cells #[.int .i64 12] 3)).heap[k]? := fun k hk => hblk k (by simpa using hk)
    have q1 : w2.heap[w1.heap.size]? = some (.cells #[.slice vo 1 vcap, .slice ac 1 cc] 25 (0, 0)) := by
      rw [hblk _ (by omega) (HN.out _ (by omega)), blk_old _ _ _ (by simp)]; exact blk_new _ _ _ rfl
    have q2 : w2.heap[w.heap.size + 1]? = some (.cells #[.slice none 0 0, .slice none 0 0] 25 (0, 0)) := by
      rw [hblk _ (by omega) (HN.out _ (by omega)), blk_old _ _ _ (by simp; omega), blk_old _ _ _ (by omega)]; exact K1.out
    have a0 : w2.cell? ⟨w1.heap.size, 0, none⟩ = some (.slice vo 1 vcap) := cell_blk q1 rfl
    have a1 : w2.cell? ⟨w1.heap.size, 1, none⟩ = some (.slice ac 1 cc) := cell_blk q1 rfl
    have f1 : w2.frozen? ⟨w1.heap.size, 1, none⟩ = false := frozen_blk q1
    have b0 : w2.cell? ⟨w.heap.size + 1, 0, none⟩ = some (.slice none 0 0) := cell_blk q2 rfl
    have b1 : w2.cell? ⟨w.heap.size + 1, 1, none⟩ = some (.slice none 0 0) := cell_blk q2 rfl
    have g0 : w2.frozen? ⟨w.heap.size + 1, 0, none⟩ = false := frozen_blk q2
    have g1 : w2.frozen? ⟨w.heap.size + 1, 1, none⟩ = false := frozen_blk q2
    have hne : w.heap.size + 1 ≠ w1.heap.size := by omega
    have HO := Lib.hid hO
    have HB2 := Lib.hid hb2
    have HK := Lib.hid hblk
    have Q1 := Lib.hid q1
    have Q2 := Lib.hid q2
    clear hO hb2 hblk q1 q2
    go_wp2
    refine bodyPost_ret (v := .agg #[.slice vo 1 vcap, .slice (some ⟨g, 0, none⟩) 2 cap]) (by simp [results, Tryz.results103, go_sem, a0, a1, b0, b1, hne]) rfl ⟨_, _, rfl, ?_, ?_⟩
    · have hblk := HK.out
      have gA : ∀ k, k < w1.heap.size → some k ≠ (Value.slice ac 1 cc).ownBlock → w2.heap[k]? = w1.heap[k]? := fun k hk hn => by
        rw [hblk k (by omega) hn, blk_old _ _ _ (by simp; omega), blk_old _ _ _ hk]
      have gg := gb_trans (gb_set w2 w1.heap.size 1 (.slice (some ⟨g, 0, none⟩) 2 cap)) (gb_refl _ _)
      have hA2 : Ats (fun k => W0.heap.size ≤ k ∧ k < w1.heap.size) w2 (.slice vo 1 vcap) [a] :=
        ((HA.out.weak (Q := fun k => k < w1.heap.size ∧ W0.heap.size ≤ k ∧ (Value.slice ac 1 cc).ownBlock ≠ some k) fun k hk hp => ⟨hk, hp⟩).keep (by omega) fun k hk hp => gA k hk (Ne.symm hp.2.2)).weak fun k _ hp => ⟨hp.2.1, hp.1⟩
      have hset : ∀ k, k ≠ w1.heap.size → k ≠ w.heap.size + 1 → (((w2.setCell ⟨w1.heap.size, 1, none⟩ (.slice (some ⟨g, 0, none⟩) 2 cap)).setCell ⟨w.heap.size + 1, 0, none⟩ (.slice vo 1 vcap)).setCell ⟨w.heap.size + 1, 1, none⟩ (.slice (some ⟨g, 0, none⟩) 2 cap)).heap[k]? = w2.heap[k]? := fun k h1 h2 => by
        rw [set_old _ _ h2, set_old _ _ h2, set_old _ _ h1]
      have hgt : g ≠ w1.heap.size ∧ g ≠ w.heap.size + 1 := by
        refine ⟨fun e => ?_, by omega⟩
        rcases HO.out.2 with ⟨h0, _⟩ | ⟨g', cap', cur, hv, _, hg', _⟩
        · cases h0
        · cases hv
          rw [e, Q1.out] at hg'
          injection hg' with e1
          injection e1 with e2 e3
          exact absurd e3 (by decide)
      refine ⟨(hA2.keep (by simp [World.setCell]) fun k _ hp => hset k (by omega) (by omega)).weak fun k _ hp => by omega, ?_⟩
      have hI : Ints (fun k => k = g) w2 (.slice (some ⟨g, 0, none⟩) 2 cap) [0, 12] := by
        rcases HO.out.ints with ⟨_, h0, _⟩ | ⟨b, off, cap', hv, r1, r2, r3, r4, r5⟩
        · cases h0
        · cases hv; exact .inr ⟨g, 0, cap, rfl, r1, r2, rfl, r4, r5⟩
      exact (hI.keep (by simp [World.setCell]) fun k _ hp => hset k (by rw [hp]; exact hgt.1) (by rw [hp]; exact hgt.2)).weak fun k _ hp => by omega
    · have hb3 : Below w.heap.size w w2 := ((HB.out.alloc (by omega) _).alloc (by simp; omega) _).trans (HB2.out.mono (by omega))
      exact ((hb3.setCell (p := ⟨w1.heap.size, 1, none⟩) (by show w.heap.size ≤ w1.heap.size; omega) _).setCell (p := ⟨w.heap.size + 1, 0, none⟩) (by simp) _).setCell (p := ⟨w.heap.size + 1, 1, none⟩) (by simp) _
  · have e0 : w1.cell? ⟨w.heap.size + 1, 0, none⟩ = some (.slice none 0 0) := cell_blk k1' rfl
    have e1 : w1.cell? ⟨w.heap.size + 1, 1, none⟩ = some (.slice none 0 0) := cell_blk k1' rfl
    have f0 : w1.frozen? ⟨w.heap.size + 1, 0, none⟩ = false := frozen_blk k1'
    have f1 : w1.frozen? ⟨w.heap.size + 1, 1, none⟩ = false := frozen_blk k1'
    have HK := Lib.hid k1'
    have hlt : w.heap.size + 1 < w1.heap.size := by omega
    clear k1'
    go_wp2
    have hA := HA.out
    refine bodyPost_ret (v := .agg #[.slice vo 1 vcap, .slice ac 1 cc]) (by simp [results, Tryz.results103, go_sem, e0, e1, hlt]) rfl ⟨_, _, rfl, ?_, ?_⟩
    · have gg := gb_trans (gb_set w1 (w.heap.size + 1) 0 (.slice vo 1 vcap)) (gb_trans (gb_set _ (w.heap.size + 1) 1 (.slice ac 1 cc)) (gb_below (row := some (w.heap.size + 1)) ((Below.refl _ _).alloc (Nat.le_refl _) (.cells #[.slice vo 1 vcap, .slice ac 1 cc] 25))))
      have h1 : FmV (fun k => W0.heap.size ≤ k) w1 (.slice vo 1 vcap) (.slice ac 1 cc) ⟨[a], [0]⟩ := ⟨HA.out.weak fun k _ hk => hk.1, HC.out.ints⟩
      exact FmV.gb h1 gg (fun k _ hk => by simp; omega) fun k _ hk => by omega
    · exact ((HB.out.setCell (p := ⟨w.heap.size + 1, 0, none⟩) (by simp) _).setCell (p := ⟨w.heap.size + 1, 1, none⟩) (by simp) _).alloc (by simp [World.setCell]; omega) _
end Go.Proofs.YtpfinfneclmjkaaGreatDoor
