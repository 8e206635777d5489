/- Package fit: the iterator over all counts. Condition: so many things may be. -/
import Derived.Test.YtpfinfneclmjkaaGreatDoorRange
import Derived.Test.YtpfinfneclmjkaaGreatDoorFit
import Derived.Test.YtpfinfneclmjkaaGreatDoorPlain4
namespace Go.Proofs.YtpfinfneclmjkaaGreatDoor
open Go.RowKit V
attribute [local go_sem] Oper.semAt_some

def rd (w : World) (B j : Nat) : Int := match w.cell? ⟨B, j, none⟩ with | some (.int _ n) => n | _ => 0
def rem (w : World) (B : Nat) : Nat := (5764801 - wt [rd w B 0, rd w B 1, rd w B 2, rd w B 3, rd w B 4, rd w B 5, rd w B 6, rd w B 7]).toNat
def boolOf : Value → Bool | .bool b => b | _ => false

theorem eight {w : World} {B : Nat} {t : TypeId} {o0 o1 o2 o3 o4 o5 o6 o7 : Value} (m0 m1 m2 m3 m4 m5 m6 m7 : Int) (h : w.heap[B]? = some (.cells #[o0, o1, o2, o3, o4, o5, o6, o7] t (0, 0))) :
    ((((((((w.setCell ⟨B, 0, none⟩ (.int .i64 m0)).setCell ⟨B, 1, none⟩ (.int .i64 m1)).setCell ⟨B, 2, none⟩ (.int .i64 m2)).setCell ⟨B, 3, none⟩ (.int .i64 m3)).setCell ⟨B, 4, none⟩ (.int .i64 m4)).setCell ⟨B, 5, none⟩ (.int .i64 m5)).setCell ⟨B, 6, none⟩ (.int .i64 m6)).setCell ⟨B, 7, none⟩ (.int .i64 m7)).heap[B]? = some (.cells #[.int .i64 m0, .int .i64 m1, .int .i64 m2, .int .i64 m3, .int .i64 m4, .int .i64 m5, .int .i64 m6, .int .i64 m7] t (0, 0)) := by
  simp [World.setCell, Array.getElem?_modify, h]
theorem eight_below {w : World} {B h : Nat} (hB : h ≤ B) (m0 m1 m2 m3 m4 m5 m6 m7 : Int) : Below h w ((((((((w.setCell ⟨B, 0, none⟩ (.int .i64 m0)).setCell ⟨B, 1, none⟩ (.int .i64 m1)).setCell ⟨B, 2, none⟩ (.int .i64 m2)).setCell ⟨B, 3, none⟩ (.int .i64 m3)).setCell ⟨B, 4, none⟩ (.int .i64 m4)).setCell ⟨B, 5, none⟩ (.int .i64 m5)).setCell ⟨B, 6, none⟩ (.int .i64 m6)).setCell ⟨B, 7, none⟩ (.int .i64 m7)) :=
  Below.setCell (p := ⟨B, 7, none⟩) (Below.setCell (p := ⟨B, 6, none⟩) (Below.setCell (p := ⟨B, 5, none⟩) (Below.setCell (p := ⟨B, 4, none⟩) (Below.setCell (p := ⟨B, 3, none⟩) (Below.setCell (p := ⟨B, 2, none⟩) (Below.setCell (p := ⟨B, 1, none⟩) (Below.setCell (p := ⟨B, 0, none⟩) (Below.refl h w) hB _) hB _) hB _) hB _) hB _) hB _) hB _) hB _
theorem rem_of {w : World} {B : Nat} {t : TypeId} {fz : Nat × Nat} (n0 n1 n2 n3 n4 n5 n6 n7 : Int) (h : w.heap[B]? = some (.cells #[.int .i64 n0, .int .i64 n1, .int .i64 n2, .int .i64 n3, .int .i64 n4, .int .i64 n5, .int .i64 n6, .int .i64 n7] t fz)) : rem w B = (5764801 - wt [n0, n1, n2, n3, n4, n5, n6, n7]).toNat := by
  simp [rem, rd, World.cell?, h]
theorem cts_of (l : List (List Int)) (h : ∀ y ∈ l, goodB y = true) : ∃ r : List Ct, r.map (·.1) = l := by
  induction l with
  | nil => exact ⟨[], rfl⟩
  | cons y l ih =>
    obtain ⟨r, hr⟩ := ih (fun z hz => h z (by simp [hz]))
    exact ⟨⟨y, h y (by simp)⟩ :: r, by simp [hr]⟩

set_option maxHeartbeats 4000000 in
set_option maxRecDepth 100000 in
theorem all_seq (u : Nat) (hu : u ≤ 6) (bu : Nat) (w : World) (hc : w.cell? ⟨bu, 0, none⟩ = some (.int .i64 (u : Int))) :
    SeqC (α := Ct) 159 #[.pointer (some ⟨bu, 0, none⟩)] (fun x => #[cv x.1]) (fun xs => xs.map (·.1) = allC u) w := by
  intro n l J Jx W hW hJ hJx hY h0
  have hbu : bu < w.heap.size := World.block_lt_of_cell? w _ hc
  have hcW : W.cell? ⟨bu, 0, none⟩ = some (.int .i64 (u : Int)) := (hW.cell (p := ⟨bu, 0, none⟩) hbu).trans hc
  have hbuW : bu < W.heap.size := World.block_lt_of_cell? W _ hcW
  have hch := chain_all ⟨u, by omega⟩
  have HC := Lib.hid (chain_at hch.1)
  have HH := Lib.hid hch.2
  have HY := Lib.hid hY
  have HJ := Lib.hid hJ
  have H0 := Lib.hid h0
  clear hch hY hJ h0
  refine callsIn_of_wp Tryz.func159 rfl trivial ?_ rfl
  simp only [Tryz.ntmps159, List.size_toArray, List.length_cons, List.length_nil, Nat.reduceAdd, Nat.reduceSub, Array.replicate_succ, Array.replicate_zero, List.push_toArray, List.append_toArray, List.nil_append, List.cons_append]
  gi_wp2
  gi_loopw [4] (fun v wr => ∃ (pre : List Ct) (isb : Bool) (n0 n1 n2 n3 n4 n5 n6 n7 : Int), v = .bool isb ∧ wr.heap[W.heap.size]? = some (.cells #[.int .i64 n0, .int .i64 n1, .int .i64 n2, .int .i64 n3, .int .i64 n4, .int .i64 n5, .int .i64 n6, .int .i64 n7] 44 (0, 0)) ∧
      (isb = true → pre.map (·.1) = (allC u).take pre.length ∧ (allC u)[pre.length]? = some [n0, n1, n2, n3, n4, n5, n6, n7]) ∧ (isb = false → pre.map (·.1) = allC u) ∧ J pre wr)
    (fun v wr => if boolOf v = true then rem wr W.heap.size + 1 else 0)
  case atStart =>
    refine ⟨[], true, 0, 0, 0, 0, 0, 0, 0, (u : Int), rfl, ?_, fun _ => ⟨rfl, ?_⟩, fun h => by simp at h, ?_⟩
    · first | exact heap_alloc_new _ _ | (simp [World.setCell, World.alloc, Array.getElem?_modify]; done)
    · have h := HH.out; rw [List.head?_eq_getElem?] at h; exact h
    · exact HJ.out _ _ _ H0.out (by repeat (first | exact Below.refl _ _ | refine Below.setCell ?_ (by simp) _ | refine Below.alloc ?_ (by simp) _))
  case round =>
    obtain ⟨pre, isb, n0, n1, n2, n3, n4, n5, n6, n7, rfl, hblk, hT, hF, hJp⟩ := hrel
    cases isb
    · have HF := Lib.hid (hF rfl)
      have HJp := Lib.hid hJp
      clear hF hT hJp
      gi_wp2
      refine ⟨fun _ h => (by cases h), ?_⟩
      gi_wp2
      go_end0
      exact ⟨⟨_, rfl⟩, .inl ⟨pre, HF.out, HJp.out⟩⟩
    · obtain ⟨hpre, hget⟩ := hT rfl
      obtain ⟨hp, hLp⟩ := List.getElem?_eq_some_iff.1 hget
      obtain ⟨hgood, hw1, hnext⟩ := HC.out pre.length hp
      rw [hLp] at hgood hw1 hnext
      have c0 : wr.cell? ⟨W.heap.size, 0, none⟩ = some (.int .i64 n0) := by simp [World.cell?, hblk]
      have c1 : wr.cell? ⟨W.heap.size, 1, none⟩ = some (.int .i64 n1) := by simp [World.cell?, hblk]
      have c2 : wr.cell? ⟨W.heap.size, 2, none⟩ = some (.int .i64 n2) := by simp [World.cell?, hblk]
      have c3 : wr.cell? ⟨W.heap.size, 3, none⟩ = some (.int .i64 n3) := by simp [World.cell?, hblk]
      have c4 : wr.cell? ⟨W.heap.size, 4, none⟩ = some (.int .i64 n4) := by simp [World.cell?, hblk]
      have c5 : wr.cell? ⟨W.heap.size, 5, none⟩ = some (.int .i64 n5) := by simp [World.cell?, hblk]
      have c6 : wr.cell? ⟨W.heap.size, 6, none⟩ = some (.int .i64 n6) := by simp [World.cell?, hblk]
      have c7 : wr.cell? ⟨W.heap.size, 7, none⟩ = some (.int .i64 n7) := by simp [World.cell?, hblk]
      obtain ⟨x, hxe⟩ : ∃ x : Ct, x.1 = [n0, n1, n2, n3, n4, n5, n6, n7] := ⟨⟨_, hgood⟩, rfl⟩
      obtain ⟨fn, tmps, assign, body, hy, hR⟩ := HY.out (n - 1) pre x wr hJp
      rw [hxe] at hy
      have HXE := Lib.hid hxe
      clear hxe
      have hy' : (Instr.yield l #[.agg #[.int .i64 n0, .int .i64 n1, .int .i64 n2, .int .i64 n3, .int .i64 n4, .int .i64 n5, .int .i64 n6, .int .i64 n7]]).run Tryz.prog wr = .ok (.round l fn tmps assign body) wr := hy
      have HBLK := Lib.hid hblk
      have HPRE := Lib.hid hpre
      have HGET := Lib.hid hget
      have HG := Lib.hid hgood
      have HW1 := Lib.hid hw1
      have HN := Lib.hid hnext
      have HR := Lib.hid hR
      have hbl : W.heap.size < wr.heap.size := (Array.getElem?_eq_some_iff.1 hblk).1
      clear hy hblk hpre hget hgood hw1 hnext hR hT hF hJp hp hLp
      gi_wp2
      refine ⟨fun h => by simp [Fence.wide] at h, HR.out.mono ?_⟩
      rintro e W3 (⟨rfl, hJ3, hk3⟩ | ⟨rfl, hJx3⟩)
      · have hb3 := (hk3.block W.heap.size (Nat.le_refl _) hbl).trans HBLK.out
        have d0 : W3.cell? ⟨W.heap.size, 0, none⟩ = some (.int .i64 n0) := by simp [World.cell?, hb3]
        have d1 : W3.cell? ⟨W.heap.size, 1, none⟩ = some (.int .i64 n1) := by simp [World.cell?, hb3]
        have d2 : W3.cell? ⟨W.heap.size, 2, none⟩ = some (.int .i64 n2) := by simp [World.cell?, hb3]
        have d3 : W3.cell? ⟨W.heap.size, 3, none⟩ = some (.int .i64 n3) := by simp [World.cell?, hb3]
        have d4 : W3.cell? ⟨W.heap.size, 4, none⟩ = some (.int .i64 n4) := by simp [World.cell?, hb3]
        have d5 : W3.cell? ⟨W.heap.size, 5, none⟩ = some (.int .i64 n5) := by simp [World.cell?, hb3]
        have d6 : W3.cell? ⟨W.heap.size, 6, none⟩ = some (.int .i64 n6) := by simp [World.cell?, hb3]
        have d7 : W3.cell? ⟨W.heap.size, 7, none⟩ = some (.int .i64 n7) := by simp [World.cell?, hb3]
        have hbl3 : W.heap.size < W3.heap.size := Nat.lt_of_lt_of_le hbl hk3.size
        have HJ3 := Lib.hid hJ3
        have HB3 := Lib.hid hb3
        have hg := good_form HG.out
        obtain ⟨g0, g1, g2, g3, g4, g5, g6, g7⟩ : (0 ≤ n0 ∧ n0 ≤ 6) ∧ (0 ≤ n1 ∧ n1 ≤ 6) ∧ (0 ≤ n2 ∧ n2 ≤ 6) ∧ (0 ≤ n3 ∧ n3 ≤ 6) ∧ (0 ≤ n4 ∧ n4 ≤ 6) ∧ (0 ≤ n5 ∧ n5 ≤ 6) ∧ (0 ≤ n6 ∧ n6 ≤ 6) ∧ (0 ≤ n7 ∧ n7 ≤ 6) := by
          obtain ⟨a0, a1, a2, a3, a4, a5, a6, a7, he, r0, r1, r2, r3, r4, r5, r6, r7, _⟩ := hg
          simp only [List.cons.injEq, and_true] at he
          obtain ⟨rfl, rfl, rfl, rfl, rfl, rfl, rfl, rfl⟩ := he
          exact ⟨r0, r1, r2, r3, r4, r5, r6, r7⟩
        have HAF := Lib.hid (after_any n0 n1 n2 n3 n4 n5 n6 n7 W3 g0 g1 g2 g3 g4 g5 g6 g7)
        clear hJ3 hb3 hg hk3
        gi_wp2_with fail
        refine ⟨trivial, ?_⟩
        gi_wp2_with fail
        refine ⟨fun h => by simp [Fence.wide] at h, (callsIn_wide.2 HAF.out).mono ?_⟩
        rcases HN.out with ⟨hq, he, hlt⟩ | ⟨hq, he⟩
        · rw [he]
          have hg2 := (HC.out _ hq).1
          obtain ⟨m0, m1, m2, m3, m4, m5, m6, m7, hm, q0, q1, q2, q3, q4, q5, q6, q7, _⟩ := good_form hg2
          rw [hm] at hlt ⊢
          have HM := Lib.hid hm
          have HLT := Lib.hid hlt
          clear hm hlt he hg2
          rintro e W4 ⟨rfl, hb⟩
          have hb4 := (hb.block W.heap.size hbl3).trans HB3.out
          have e0 : W4.cell? ⟨W.heap.size, 0, none⟩ = some (.int .i64 n0) := by simp [World.cell?, hb4]
          have e1 : W4.cell? ⟨W.heap.size, 1, none⟩ = some (.int .i64 n1) := by simp [World.cell?, hb4]
          have e2 : W4.cell? ⟨W.heap.size, 2, none⟩ = some (.int .i64 n2) := by simp [World.cell?, hb4]
          have e3 : W4.cell? ⟨W.heap.size, 3, none⟩ = some (.int .i64 n3) := by simp [World.cell?, hb4]
          have e4 : W4.cell? ⟨W.heap.size, 4, none⟩ = some (.int .i64 n4) := by simp [World.cell?, hb4]
          have e5 : W4.cell? ⟨W.heap.size, 5, none⟩ = some (.int .i64 n5) := by simp [World.cell?, hb4]
          have e6 : W4.cell? ⟨W.heap.size, 6, none⟩ = some (.int .i64 n6) := by simp [World.cell?, hb4]
          have e7 : W4.cell? ⟨W.heap.size, 7, none⟩ = some (.int .i64 n7) := by simp [World.cell?, hb4]
          have z0 : W4.frozen? ⟨W.heap.size, 0, none⟩ = false := by simp [World.frozen?, hb4]
          have z1 : W4.frozen? ⟨W.heap.size, 1, none⟩ = false := by simp [World.frozen?, hb4]
          have z2 : W4.frozen? ⟨W.heap.size, 2, none⟩ = false := by simp [World.frozen?, hb4]
          have z3 : W4.frozen? ⟨W.heap.size, 3, none⟩ = false := by simp [World.frozen?, hb4]
          have z4 : W4.frozen? ⟨W.heap.size, 4, none⟩ = false := by simp [World.frozen?, hb4]
          have z5 : W4.frozen? ⟨W.heap.size, 5, none⟩ = false := by simp [World.frozen?, hb4]
          have z6 : W4.frozen? ⟨W.heap.size, 6, none⟩ = false := by simp [World.frozen?, hb4]
          have z7 : W4.frozen? ⟨W.heap.size, 7, none⟩ = false := by simp [World.frozen?, hb4]
          have hJ4 := Lib.hid (HJ.out _ _ _ HJ3.out (hb.mono (Nat.le_of_lt hbl3)))
          have HB4 := Lib.hid hb4
          clear hb4 hb
          simp only [cv]
          gi_wp2
          have HE8 := Lib.hid (eight m0 m1 m2 m3 m4 m5 m6 m7 HB4.out)
          go_roundw
          case rel =>
            refine ⟨pre ++ [x], true, m0, m1, m2, m3, m4, m5, m6, m7, rfl, HE8.out, fun _ => ⟨?_, ?_⟩, fun h => by simp at h, HJ.out _ _ _ hJ4.out (eight_below (Nat.le_refl _) _ _ _ _ _ _ _ _)⟩
            · have hl := (List.getElem?_eq_some_iff.1 HGET.out)
              rw [List.map_append, HPRE.out, List.map_cons, List.map_nil, HXE.out, List.length_append, List.length_singleton, List.take_succ_eq_append_getElem hl.1, hl.2]
            · rw [List.length_append, List.length_singleton, List.getElem?_eq_getElem hq, HM.out]
          case measure =>
            rw [rem_of _ _ _ _ _ _ _ _ HE8.out, rem_of _ _ _ _ _ _ _ _ HBLK.out]
            have h1 := HLT.out
            have h2 := HW1.out
            simp only [boolOf, if_true]
            have g : (boolOf (.bool true)) = true := rfl
            simp [boolOf]
            omega
        · rw [he]
          have HQ := Lib.hid hq
          clear he hq
          rintro e W4 ⟨rfl, hb⟩
          have hb4 := (hb.block W.heap.size hbl3).trans HB3.out
          have e0 : W4.cell? ⟨W.heap.size, 0, none⟩ = some (.int .i64 n0) := by simp [World.cell?, hb4]
          have e1 : W4.cell? ⟨W.heap.size, 1, none⟩ = some (.int .i64 n1) := by simp [World.cell?, hb4]
          have e2 : W4.cell? ⟨W.heap.size, 2, none⟩ = some (.int .i64 n2) := by simp [World.cell?, hb4]
          have e3 : W4.cell? ⟨W.heap.size, 3, none⟩ = some (.int .i64 n3) := by simp [World.cell?, hb4]
          have e4 : W4.cell? ⟨W.heap.size, 4, none⟩ = some (.int .i64 n4) := by simp [World.cell?, hb4]
          have e5 : W4.cell? ⟨W.heap.size, 5, none⟩ = some (.int .i64 n5) := by simp [World.cell?, hb4]
          have e6 : W4.cell? ⟨W.heap.size, 6, none⟩ = some (.int .i64 n6) := by simp [World.cell?, hb4]
          have e7 : W4.cell? ⟨W.heap.size, 7, none⟩ = some (.int .i64 n7) := by simp [World.cell?, hb4]
          have z0 : W4.frozen? ⟨W.heap.size, 0, none⟩ = false := by simp [World.frozen?, hb4]
          have z1 : W4.frozen? ⟨W.heap.size, 1, none⟩ = false := by simp [World.frozen?, hb4]
          have z2 : W4.frozen? ⟨W.heap.size, 2, none⟩ = false := by simp [World.frozen?, hb4]
          have z3 : W4.frozen? ⟨W.heap.size, 3, none⟩ = false := by simp [World.frozen?, hb4]
          have z4 : W4.frozen? ⟨W.heap.size, 4, none⟩ = false := by simp [World.frozen?, hb4]
          have z5 : W4.frozen? ⟨W.heap.size, 5, none⟩ = false := by simp [World.frozen?, hb4]
          have z6 : W4.frozen? ⟨W.heap.size, 6, none⟩ = false := by simp [World.frozen?, hb4]
          have z7 : W4.frozen? ⟨W.heap.size, 7, none⟩ = false := by simp [World.frozen?, hb4]
          have hJ4 := Lib.hid (HJ.out _ _ _ HJ3.out (hb.mono (Nat.le_of_lt hbl3)))
          have HB4 := Lib.hid hb4
          clear hb4 hb
          simp only [cv]
          gi_wp2
          have HE8 := Lib.hid (eight n0 n1 n2 n3 n4 n5 n6 n7 HB4.out)
          go_roundw
          case rel =>
            refine ⟨pre ++ [x], false, n0, n1, n2, n3, n4, n5, n6, n7, rfl, HE8.out, fun h => by simp at h, fun _ => ?_, HJ.out _ _ _ hJ4.out (eight_below (Nat.le_refl _) _ _ _ _ _ _ _ _)⟩
            have hl := (List.getElem?_eq_some_iff.1 HGET.out)
            rw [List.map_append, HPRE.out, List.map_cons, List.map_nil, HXE.out, ← hl.2, ← List.take_succ_eq_append_getElem hl.1, List.take_of_length_le (by have := HQ.out; omega)]
          case measure => simp [boolOf]
      · have HX := Lib.hid hJx3
        clear hJx3
        gi_wp2
        go_end0
        have hl := (List.getElem?_eq_some_iff.1 HGET.out)
        obtain ⟨r, hr⟩ := cts_of ((allC u).drop (pre.length + 1)) (fun y hy => by
          obtain ⟨j, hj, rfl⟩ := List.mem_iff_getElem.1 (List.mem_of_mem_drop hy)
          exact (HC.out j hj).1)
        refine ⟨⟨_, rfl⟩, .inr ⟨pre ++ [x], ⟨r, ?_⟩, HX.out⟩⟩
        rw [List.map_append, List.map_append, HPRE.out, List.map_cons, List.map_nil, HXE.out, hr, ← hl.2, ← List.take_succ_eq_append_getElem hl.1, List.take_append_drop]
end Go.Proofs.YtpfinfneclmjkaaGreatDoor
