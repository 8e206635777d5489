/- Package core: some world of so many things in which all hold. Conditions: formulas are right; so many things may be; the table of the kinds lies as its text lays it. -/
import Derived.Test.YtpfinfneclmjkaaGreatDoorSo
import Derived.Test.YtpfinfneclmjkaaGreatDoorFitAll
import Derived.Test.YtpfinfneclmjkaaGreatDoorMade
import Derived.Test.YtpfinfneclmjkaaGreatDoorPlain6
import Derived.Shelf.Abstract
import Derived.Shelf.RegionOpen
import Derived.Deep.Heap
namespace Go.Proofs.YtpfinfneclmjkaaGreatDoor
open Go.RowKit V
attribute [local go_sem] Oper.semAt_some

def someW (l : List Fm) (u : Int) : Bool := (allC u.toNat).any fun n => allTrue l (made n)

theorem fitAll_any (u : Int) (w : World) : Calls Tryz.prog 93 #[.int .i64 u] w fun e w' => e = .returned (.func (.func 159) #[] #[.pointer (some ⟨w.heap.size, 0, none⟩)]) ∧ w.alloc (.cells #[.int .i64 u] 3) = w' := by
  go_enter Tryz.func93, Tryz.ntmps93
  go_wp2
  go_ret
  exact ⟨rfl, rfl⟩

theorem enters_all1 : Enters 159 := fun _ _ => by kernel_rfl

theorem wide_room (n : Nat) : Fence.wide.depth.isSome = true → 1 ≤ n := fun h => by simp [Fence.wide] at h

set_option maxHeartbeats 4000000 in
set_option maxRecDepth 100000 in
theorem some_any {P : Nat → Prop} (v : Value) (l : List Fm) (u : Int) (w : World) (hv : Fms P w v l) (hk : Kinds w) (hF : ∀ f ∈ l, formCheck f = 0) (hu0 : 0 ≤ u) (hu6 : u ≤ 6) :
    Calls Tryz.prog 97 #[v, .int .i64 u] w fun e w' => e = .returned (.bool (someW l u)) ∧ Below w.heap.size w w' := by
  obtain ⟨u, rfl⟩ := Int.eq_ofNat_of_zero_le hu0
  obtain ⟨ao, cap, rfl⟩ := hv.form
  refine (callsIn_wide (n := 3)).1 ?_
  refine callsIn_of_wp_marks Tryz.func97 rfl trivial ?_ rfl
  simp only [Tryz.ntmps97, List.size_toArray, List.length_cons, List.length_nil, Nat.reduceAdd, Nat.reduceSub, Array.replicate_succ, Array.replicate_zero, List.push_toArray, List.append_toArray, List.nil_append, List.cons_append]
  gi_wp2_with fail
  refine ⟨trivial, (callsIn_wide.2 (fitAll_any _ _)).mono ?_⟩
  rintro e w' ⟨rfl, rfl⟩
  gi_wp2_with fail
  have hs2 := hv.form
  obtain ⟨W0, hW0⟩ : ∃ W0, ((w.alloc (.cells #[.slice ao l.length cap] 41)).alloc (.cells #[.bool false] 4)).alloc (.cells #[.int .i64 (u : Int)] 3) = W0 := ⟨_, rfl⟩
  have hsz : W0.heap.size = w.heap.size + 3 := by rw [← hW0]; simp
  have hbW : Below w.heap.size w W0 := by rw [← hW0]; exact (((Below.refl _ _).alloc (Nat.le_refl _) _).alloc (by simp) _).alloc (by simp; omega) _
  have q0 : W0.cell? ⟨w.heap.size, 0, none⟩ = some (.slice ao l.length cap) := by rw [← hW0]; exact (World.cell?_alloc_past _ _ _ (by simp; omega)).trans ((World.cell?_alloc_past _ _ _ (by simp)).trans (World.cell?_alloc_at _ _ _ _ rfl))
  have q1 : W0.cell? ⟨w.heap.size + 1, 0, none⟩ = some (.bool false) := by rw [← hW0]; exact (World.cell?_alloc_past _ _ _ (by simp)).trans (World.cell?_alloc_at _ _ _ _ (by simp))
  have q1f : W0.frozen? ⟨w.heap.size + 1, 0, none⟩ = false := by rw [← hW0]; exact (World.frozen?_alloc_past _ _ _ (by simp)).trans (World.frozen?_alloc_at _ _ _ _ (by simp))
  have q2 : W0.cell? ⟨w.heap.size + 2, 0, none⟩ = some (.int .i64 (u : Int)) := by rw [← hW0]; exact World.cell?_alloc_at _ _ _ _ (by simp)
  have hv0 := hv.below hbW
  have hk0 := hk.keep hbW
  rw [hW0]
  have HW0 := Lib.hid hW0
  clear hW0 hs2
  refine wpIn_rangeC (α := Ct) (gf := 159) (lb := #[.pointer (some ⟨w.heap.size + 2, 0, none⟩)]) rfl enters_all1 (all_seq u (by omega) (w.heap.size + 2) W0 q2) (Below.refl _ _) (fun _ => rfl)
    (fun pre W => Below W0.heap.size W0 W ∧ ∀ x ∈ pre, allTrue l (made x.1) = false)
    (fun c pre W => c = .ret ∧ Below w.heap.size w W ∧ W.cell? ⟨w.heap.size + 1, 0, none⟩ = some (.bool true) ∧ ∃ x ∈ pre, allTrue l (made x.1) = true)
    (fun s A B hs hb => ⟨hs.1.trans hb, hs.2⟩)
    (fun c s A B hs hb => ⟨hs.1, hs.2.1.trans (hb.mono (by omega)), (hb.cell (p := ⟨w.heap.size + 1, 0, none⟩) (by simp; omega)).trans hs.2.2.1, hs.2.2.2⟩)
    ⟨Below.refl _ _, fun x hx => by simp at hx⟩ ?round ?done ?stop
  case round =>
    rintro m lp pre x W hl hlW ⟨hBW, hpre⟩
    obtain ⟨n0, n1, n2, n3, n4, n5, n6, n7, hx, -⟩ := good_form x.2
    have hgd := x.2
    rw [hx] at hgd
    have HX := Lib.hid hx
    have hlt0 : W0.heap.size < W.heap.size := by omega
    simp only [hx, cv]
    gi_wp2
    refine ⟨(High.refl _ _).alloc _, ⟨hBW.alloc (by omega) _, hpre⟩, fun W2 hW2 => ?_⟩
    have hb2 : Below W0.heap.size W0 W2 := (hBW.alloc (by omega) _).trans (hW2.below hl)
    have r0 : W2.cell? ⟨w.heap.size, 0, none⟩ = some (.slice ao l.length cap) := (hb2.cell (p := ⟨w.heap.size, 0, none⟩) (by simp; omega)).trans q0
    have r1 : W2.cell? ⟨w.heap.size + 1, 0, none⟩ = some (.bool false) := (hb2.cell (p := ⟨w.heap.size + 1, 0, none⟩) (by simp; omega)).trans q1
    have r1f : W2.frozen? ⟨w.heap.size + 1, 0, none⟩ = false := (hb2.frozen (p := ⟨w.heap.size + 1, 0, none⟩) (by simp; omega)).trans q1f
    have hne : W.heap.size ≠ lp := by omega
    have hbox : ∀ i, W2.cell? ⟨W.heap.size, i, none⟩ = (#[Value.int .i64 n0, .int .i64 n1, .int .i64 n2, .int .i64 n3, .int .i64 n4, .int .i64 n5, .int .i64 n6, .int .i64 n7] : Array Value)[i]? := fun i =>
      (World.cell?_of_block (a := ⟨W.heap.size, i, none⟩) (hW2.block _ hne)).trans (by simp)
    have e0 := hbox 0
    have e1 := hbox 1
    have e2 := hbox 2
    have e3 := hbox 3
    have e4 := hbox 4
    have e5 := hbox 5
    have e6 := hbox 6
    have e7 := hbox 7
    simp at e0 e1 e2 e3 e4 e5 e6 e7
    have hs2 : W2.heap.size = W.heap.size + 1 := by rw [hW2.size]; simp
    have HV2 := Lib.hid (hv0.below hb2.drew)
    have HK2 := Lib.hid (hk0.keep hb2.drew)
    have HB2 := Lib.hid hb2
    have HP := Lib.hid hpre
    have HOK := Lib.hid (made_ok hgd)
    have HMA := Lib.hid (made_any n0 n1 n2 n3 n4 n5 n6 n7 W2.drew hgd)
    obtain ⟨bt, hbt⟩ : ∃ bt, allTrue l (made [n0, n1, n2, n3, n4, n5, n6, n7]) = bt := ⟨_, rfl⟩
    have HSO : Hid (∀ w1, Below W2.drew.heap.size W2.drew w1 → Calls Tryz.prog 161 #[.slice ao l.length cap, .agg #[.int .i64 (made [n0, n1, n2, n3, n4, n5, n6, n7]).things, .int .i64 (made [n0, n1, n2, n3, n4, n5, n6, n7]).a, .int .i64 (made [n0, n1, n2, n3, n4, n5, n6, n7]).b, .int .i64 (made [n0, n1, n2, n3, n4, n5, n6, n7]).c]] w1 fun e w' => e = .returned (.bool bt) ∧ Below w1.heap.size w1 w') :=
      Lib.hid (fun w1 hb1 => by rw [← hbt]; exact so_any _ l _ _ _ _ w1 (HV2.out.below hb1) (HK2.out.keep hb1) hF HOK.out)
    have HBT := Lib.hid hbt
    have hmx : Tryz.prog.follows .mixedOrders = true := by kernel_rfl
    have hlt2 : w.heap.size < W2.drew.heap.size := by show w.heap.size < W2.heap.size; omega
    clear hbox hb2 hpre hgd hBW hW2 hbt
    gi_wp2
    gi_region_with_o (first | (refine ⟨trivial, wide_room _, ?_⟩; gi_at_call 92; refine (CallsIn.inRound lp (callsIn_wide.2 HMA.out)).mono ?_; rintro e w1 ⟨rfl, hb1⟩; have r0' : w1.cell? ⟨w.heap.size, 0, none⟩ = some (.slice ao l.length cap) := (hb1.cell (p := ⟨w.heap.size, 0, none⟩) hlt2).trans r0) | (refine ⟨trivial, wide_room _, ?_⟩; gi_at_call 161; refine (CallsIn.inRound lp (callsIn_wide.2 (HSO.out w1 hb1))).mono ?_; rintro e w2 ⟨rfl, hb2⟩))
    all_goals
      have hz1 : W2.heap.size ≤ w1.heap.size := hb1.size
      have hz2 := hb2.size
      have s1 : w2.cell? ⟨w.heap.size + 1, 0, none⟩ = some (.bool false) := (hb2.cell (p := ⟨w.heap.size + 1, 0, none⟩) (by simp; omega)).trans ((hb1.cell (p := ⟨w.heap.size + 1, 0, none⟩) (by show w.heap.size + 1 < W2.heap.size; omega)).trans r1)
      have s1f : w2.frozen? ⟨w.heap.size + 1, 0, none⟩ = false := (hb2.frozen (p := ⟨w.heap.size + 1, 0, none⟩) (by simp; omega)).trans ((hb1.frozen (p := ⟨w.heap.size + 1, 0, none⟩) (by show w.heap.size + 1 < W2.heap.size; omega)).trans r1f)
      have HH := Lib.hid (((High.refl W0.heap.size W2).drew.trans (High.of_below hb1)).trans (High.of_below hb2))
      have HB := Lib.hid ((HB2.out.drew.trans (hb1.mono (by show W0.heap.size ≤ W2.heap.size; omega))).trans (hb2.mono (by omega)))
      have HSE := Lib.hid (show made x.1 = made [n0, n1, n2, n3, n4, n5, n6, n7] by rw [HX.out])
      clear hb1 hb2 r0'
      cases bt
      · gi_wp2
        exact ⟨HH.out, HB.out, fun y hy => by
          rcases List.mem_append.1 hy with h | h
          · exact HP.out y h
          · rw [List.mem_singleton.1 h, HSE.out]; exact HBT.out⟩
      · gi_wp2
        exact ⟨HH.out.setCell (p := ⟨w.heap.size + 1, 0, none⟩) (by simp; omega) _, rfl, ((hbW.trans (HB.out.mono (by omega)))).setCell (p := ⟨w.heap.size + 1, 0, none⟩) (by simp) _, World.cell?_setCell_same' _ _ _ (by rw [s1]; rfl), x, by simp, by rw [HSE.out]; exact HBT.out⟩
  case done =>
    rintro xs W hxs ⟨hBW, hno⟩ hK
    have HBW := Lib.hid (hbW.trans (hBW.mono (by omega)))
    have r1 : W.cell? ⟨w.heap.size + 1, 0, none⟩ = some (.bool false) := (hBW.cell (p := ⟨w.heap.size + 1, 0, none⟩) (by simp; omega)).trans q1
    have r1f : W.frozen? ⟨w.heap.size + 1, 0, none⟩ = false := (hBW.frozen (p := ⟨w.heap.size + 1, 0, none⟩) (by simp; omega)).trans q1f
    have HX := Lib.hid (show someW l (u : Int) = false by
      unfold someW
      rw [Int.toNat_natCast, ← hxs, List.any_eq_false]
      intro y hy
      obtain ⟨z, hz, rfl⟩ := List.mem_map.1 hy
      simpa using hno z hz)
    clear hno hBW hxs
    gi_wp2
    have hK' : (W.setCell ⟨w.heap.size + 1, 0, none⟩ (.bool false)).heap[W0.heap.size]? = some (.deferred (some [])) := (Deep.blk_setCell_other _ _ _ _ (by simp; omega)).trans hK
    have hlW : W0.heap.size < (W.setCell ⟨w.heap.size + 1, 0, none⟩ (.bool false)).heap.size := (Array.getElem?_eq_some_iff.1 hK').1
    have r2 : (W.setCell ⟨w.heap.size + 1, 0, none⟩ (.bool false)).cell? ⟨w.heap.size + 1, 0, none⟩ = some (.bool false) := World.cell?_setCell_same' _ _ _ (by rw [r1]; rfl)
    have hsb := (sameBut_putObj _ W0.heap.size (.deferred none) hlW).below (Nat.le_refl W0.heap.size)
    have r3 := (hsb.cell (p := ⟨w.heap.size + 1, 0, none⟩) (by simp; omega)).trans r2
    have HSB := Lib.hid (((HBW.out.setCell (p := ⟨w.heap.size + 1, 0, none⟩) (by simp) (.bool false))).trans (hsb.mono (by omega)))
    clear hsb
    refine ⟨by simp, .inl ⟨_, _, rfl, run_takeDeferred hK', ?_⟩⟩
    exact ⟨.bool false, by simp [results, Tryz.results97, go_sem, r3], by rw [HX.out], HSB.out⟩
  case stop =>
    rintro c pre W ⟨rest, hS⟩ ⟨rfl, hBW, hcell, x, hx, hat⟩ hK
    have HX := Lib.hid (show someW l (u : Int) = true by
      unfold someW
      rw [Int.toNat_natCast, ← hS, List.any_eq_true]
      exact ⟨x.1, List.mem_map.2 ⟨x, by simp [hx], rfl⟩, hat⟩)
    have HBW := Lib.hid hBW
    clear hat hBW hS hx
    gi_wp2
    refine ⟨by simp, .inl ⟨_, _, rfl, run_takeDeferred hK, ?_⟩⟩
    have hlW : W0.heap.size < W.heap.size := (Array.getElem?_eq_some_iff.1 hK).1
    have hsb := (sameBut_putObj W W0.heap.size (.deferred none) hlW).below (Nat.le_refl W0.heap.size)
    have r3 := (hsb.cell (p := ⟨w.heap.size + 1, 0, none⟩) (by simp; omega)).trans hcell
    have HSB := Lib.hid (HBW.out.trans (hsb.mono (by omega)))
    clear hsb
    exact ⟨.bool true, by simp [results, Tryz.results97, go_sem, r3], by rw [HX.out], HSB.out⟩
end Go.Proofs.YtpfinfneclmjkaaGreatDoor
