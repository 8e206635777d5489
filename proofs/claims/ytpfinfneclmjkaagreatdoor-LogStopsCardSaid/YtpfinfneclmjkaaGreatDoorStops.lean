/- LogStops: the law's walk. Conditions: the tables and the variable of the error type lie as their texts lay them. -/
import Derived.Test.YtpfinfneclmjkaaGreatDoorLogG
import Derived.Test.YtpfinfneclmjkaaGreatDoorTold
import Derived.Test.YtpfinfneclmjkaaGreatDoorFormCheck
namespace Go.Proofs.YtpfinfneclmjkaaGreatDoor
open Go.RowKit V

def aB : At := ⟨4, [1], [], 1⟩
def aC : At := ⟨4, [2], [], 1⟩
def a0 : At := ⟨0, [], [], 0⟩
theorem chkB : atomCheck aB = 0 := by decide +kernel
theorem chkC : atomCheck aC = 0 := by decide +kernel
theorem chk0 : atomCheck a0 = 1 := by decide +kernel
def sdB (n : Nat) : List (At × Bool) := List.replicate n (aB, true)
theorem someB : ∀ k : Fin 7, someW ((sdB k.val).map fun p => aloneF p.1 p.2) 1 = true := by decide +kernel
theorem someC : ∀ k : Fin 6, someW ((sdB k.val ++ [(aC, true)]).map fun p => aloneF p.1 p.2) 1 = true := by decide +kernel
theorem sdB_snoc (n : Nat) : sdB n ++ [(aB, true)] = sdB (n + 1) := List.replicate_succ'.symm

/-- the atom of the law said -/
theorem sayB {P : Nat → Prop} (b n : Nat) (s l : Int) (w : World) (h : LG w b 1 (sdB n) [] s l false) (hn : n < 6)
    (va vt : Value) (hs : Ints P w va [1]) (ht : Ints P w vt []) (hk : Kinds w) (hp : PowTab w) (hkb : 0 < b) (hl : -1 ≤ l ∧ l ≤ 1000000000000) :
    Calls Tryz.prog 31 #[.pointer (some ⟨b, 0, none⟩), .agg #[.int .i64 4, va, vt, .int .i64 1], .bool true] w fun e w' =>
      w.grownBy w' (some b) ∧ ((l = 0 ∧ ∃ part, e = .returned (errV 6) ∧ LG w' b 1 (sdB n) part s (-1) true) ∨
        (l ≠ 0 ∧ e = .returned .nilIface ∧ LG w' b 1 (sdB (n + 1)) [] s (max (-1) (l - 1)) false)) := by
  refine (sayG (P := P) b 1 (sdB n) s l w h (by unfold sdB; rw [List.length_replicate]; exact hn) ⟨by omega, by omega⟩ aB va vt hs ht hk true chkB hp hkb hl).mono ?_
  intro e w' hS
  rw [sdB_snoc, if_pos (someB ⟨n + 1, by omega⟩)] at hS
  by_cases h0 : l = 0
  · rw [if_pos h0] at hS
    obtain ⟨part, h1, h2, h3⟩ := hS
    exact ⟨h3, .inl ⟨h0, part, h1, h2⟩⟩
  · rw [if_neg h0] at hS
    obtain ⟨h1, h2, h3⟩ := hS
    exact ⟨h3, .inr ⟨h0, h1, h2⟩⟩

theorem sdB_len (n : Nat) : (sdB n).length = n := List.length_replicate
theorem sdB_take (n x : Nat) : ∃ q, q ≤ n ∧ (sdB n).take x = sdB q := ⟨min x n, Nat.min_le_right _ _, by unfold sdB; rw [List.take_replicate]⟩
theorem ownF_len {B : Nat} {P : Nat → Prop} {w : World} {v : Value} {l : List Fm} (h : OwnF B P w v l) : ∃ ao cap, v = .slice ao l.length cap := by
  rcases h.form with ⟨h, h'⟩ | ⟨g, cap, h, _⟩
  · exact ⟨none, 0, by rw [h, h']; rfl⟩
  · exact ⟨_, _, h⟩
/-- the cells of the last of the formulas -/
theorem last_cells {B : Nat} {P : Nat → Prop} {w : World} {v : Value} {q : Nat} (h : OwnF B P w v ((sdB q ++ [(aC, true)]).map fun p => aloneF p.1 p.2)) :
    ∃ g cap ab ao ac co cn cc sb so sc, v = .slice (some ⟨g, 0, none⟩) (q + 1) cap ∧ q + 1 ≤ cap ∧ g < w.heap.size ∧ w.cell? ⟨g, q * 2, none⟩ = some (.slice (some ⟨ab, ao, none⟩) 1 ac) ∧ w.cell? ⟨g, q * 2 + 1, none⟩ = some (.slice co cn cc) ∧
      FmV (fun _ => True) w (.slice (some ⟨ab, ao, none⟩) 1 ac) (.slice co cn cc) (aloneF aC true) ∧ ab < w.heap.size ∧ w.cell? ⟨ab, ao + 1, none⟩ = some (.slice (some ⟨sb, so, none⟩) 1 sc) ∧ sb < w.heap.size ∧ w.cell? ⟨sb, so, none⟩ = some (.int .i64 2) ∧ 1 ≤ ac ∧ 1 ≤ sc := by
  have hlen : ((sdB q ++ [(aC, true)]).map fun p => aloneF p.1 p.2).length = q + 1 := by rw [List.length_map, List.length_append, sdB_len]; rfl
  have hfms : Fms (fun _ => True) w v _ := h.fms (fun _ _ _ => trivial) fun _ _ _ => trivial
  rcases h.form with ⟨_, h'⟩ | ⟨g, cap, hv, h1, h2, h3, h4⟩
  · rw [h'] at hlen; simp at hlen
  rcases hfms with ⟨h', _⟩ | ⟨b, off, cap', hv', k1, k2, k3, k4, k5⟩
  · rw [hv] at h'; cases h'
  rw [hv] at hv'
  obtain ⟨e1, -, -⟩ := Value.slice.inj hv'
  have e1 := Option.some.inj e1
  have e2 : g = b := congrArg Addr.block e1
  have e3 : 0 = off := congrArg Addr.off e1
  subst e2
  subst e3
  obtain ⟨va, vc, c1, c2, c3, c4⟩ := k5 q (by rw [hlen]; omega)
  have hl : ((sdB q ++ [(aC, true)]).map fun p => aloneF p.1 p.2)[q]'(by rw [hlen]; omega) = aloneF aC true := by
    rw [List.getElem_map, List.getElem_append_right (by rw [sdB_len]; omega)]
    simp [sdB_len]
  rw [hl] at c3 c4
  obtain ⟨co, cc, rfl⟩ := c4.form
  have c3' := c3
  rcases c3 with ⟨_, _, h'⟩ | ⟨ab, ao, ac, rfl, m1, m2, m3, m4, m5⟩
  · cases h'
  obtain ⟨vs, vt, t1, t2, t3, t4, t5, t6⟩ := m5 0 (by show 0 < 1; omega)
  rcases t3 with ⟨_, _, h'⟩ | ⟨sb, so, sc, rfl, n1, n2, n3, n4, n5⟩
  · cases h'
  rw [Nat.zero_add] at c1 c2
  rw [hlen] at hv h3
  exact ⟨g, cap, ab, ao, ac, co, _, cc, sb, so, sc, hv, h3, h2, c1, c2, ⟨c3', c4⟩, m4, t2, n4, n5 0 (by show 0 < 1; omega), m1, n1⟩
/-- what lies beside the log while the law runs -/
def Kp (w w' : World) (m : Nat) : Prop := Below w.heap.size w w' ∧ w.heap.size ≤ m ∧ w'.heap[m]? = some (.cells #[.int .i64 1] 3 (0, 0)) ∧ w'.heap[m + 1]? = some (.cells #[.int .i64 4, .slice (some ⟨m, 0, none⟩) 1 1, .slice none 0 0, .int .i64 1] 50 (0, 0))
theorem Kp.below {w w' w'' : World} {m : Nat} (h : Kp w w' m) (hb : Below w'.heap.size w' w'') : Kp w w'' m := by
  obtain ⟨h1, h2, h3, h4⟩ := h
  have l3 := (Array.getElem?_eq_some_iff.1 h3).1
  have l4 := (Array.getElem?_eq_some_iff.1 h4).1
  exact ⟨h1.trans (hb.mono h1.size), h2, (hb.block _ l3).trans h3, (hb.block _ l4).trans h4⟩
theorem Kp.gb {w w' w'' : World} {m b : Nat} (h : Kp w w' m) (hb : w'.grownBy w'' (some b)) (h1 : w.heap.size ≤ b) (h2 : b < m) : Kp w w'' m := by
  obtain ⟨k1, k2, k3, k4⟩ := h
  have l3 := (Array.getElem?_eq_some_iff.1 k3).1
  have l4 := (Array.getElem?_eq_some_iff.1 k4).1
  exact ⟨k1.trans (gb_belowB (C := w) hb h1 k1.size), k2, (hb.block _ l3 (by simp; omega)).trans k3, (hb.block _ l4 (by simp; omega)).trans k4⟩
theorem Kp.cells {w w' : World} {m : Nat} (h : Kp w w' m) : w'.cell? ⟨m + 1, 0, none⟩ = some (.int .i64 4) ∧ w'.cell? ⟨m + 1, 1, none⟩ = some (.slice (some ⟨m, 0, none⟩) 1 1) ∧ w'.cell? ⟨m + 1, 2, none⟩ = some (.slice none 0 0) ∧ w'.cell? ⟨m + 1, 3, none⟩ = some (.int .i64 1) :=
  ⟨cell_blk h.2.2.2 rfl, cell_blk h.2.2.2 rfl, cell_blk h.2.2.2 rfl, cell_blk h.2.2.2 rfl⟩
theorem ints_one {w : World} {m c n : Nat} {x : Int} (h : w.heap[m]? = some (.cells #[.int .i64 x] n (0, 0))) (hc : 1 ≤ c) (hm : c ≤ maxLen) : Ints (fun _ => True) w (.slice (some ⟨m, 0, none⟩) 1 c) [x] :=
  .inr ⟨m, 0, c, rfl, hc, hm, trivial, (Array.getElem?_eq_some_iff.1 h).1, fun i hi => by
    have : i = 0 := by simpa using hi
    subst this
    exact cell_blk h rfl⟩
theorem Kp.ints {w w' : World} {m : Nat} (h : Kp w w' m) : Ints (fun _ => True) w' (.slice (some ⟨m, 0, none⟩) 1 1) [1] := ints_one h.2.2.1 (Nat.le_refl _) (by unfold maxLen; omega)

set_option maxHeartbeats 2000000 in
set_option maxRecDepth 100000 in
theorem stops_any (af mn kp : Int) (w : World) (hk : Kinds w) (hp : PowTab w) (hE : ErrT w) :
    Calls Tryz.prog 6 #[.int .i64 af, .int .i64 mn, .int .i64 kp] w fun e w' => e = .returned (.bool true) ∧ Below w.heap.size w w' := by
  have HK := Lib.hid hk
  have HP := Lib.hid hp
  have HE := Lib.hid hE
  clear hk hp hE
  by_cases hg : af < 0 ∨ 5 < af ∨ mn < 0 ∨ 5 < mn
  · have hg' : (decide (af < 0) || decide (5 < af) || decide (mn < 0) || decide (5 < mn)) = true := by
      simp only [Bool.or_eq_true, decide_eq_true_eq]
      omega
    clear hg
    go_enter Tryz.func6, Tryz.ntmps6
    go_wp2_with fail
    refine (newG 1 _ (by omega)).mono ?_
    rintro e w1 ⟨b, rfl, hb, hL, hb1⟩
    have HB1 := Lib.hid hb1
    clear hL hb1 hb
    go_wp2
    all_goals
      go_ret
      exact ⟨rfl, HB1.out⟩
  · have ha0 : ¬ af < 0 := fun h => hg (.inl h)
    have ha5 : ¬ (5 : Int) < af := fun h => hg (.inr (.inl h))
    have hm0 : ¬ mn < 0 := fun h => hg (.inr (.inr (.inl h)))
    have hm5 : ¬ (5 : Int) < mn := fun h => hg (.inr (.inr (.inr h)))
    clear hg
    go_enter Tryz.func6, Tryz.ntmps6
    go_wp2_with fail
    refine (newG 1 _ (by omega)).mono ?_
    rintro e w1 ⟨b, rfl, hb, hL, hb1⟩
    have hkb : 0 < b := by have := HK.out.size; omega
    have HL := Lib.hid hL
    have HB1 := Lib.hid hb1
    clear hL hb1
    go_wp2_with fail
    obtain ⟨m, hm⟩ : ∃ m, w1.heap.size = m := ⟨_, rfl⟩
    rw [hm]
    have hbm : b < m := hm ▸ HL.out.lt
    obtain ⟨w2, hw2⟩ : ∃ w2, ((w1.alloc (.cells #[.int .i64 1] 3)).alloc (.cells #[.int .i64 4, .slice (some ⟨m, 0, none⟩) 1 1, .slice none 0 0, .int .i64 1] 50)) = w2 := ⟨_, rfl⟩
    rw [hw2]
    have hb12 : Below w1.heap.size w1 w2 := by rw [← hw2]; exact ((Below.refl _ _).alloc (Nat.le_refl _) _).alloc (by simp) _
    have HKp : Hid (Kp w w2 m) := Lib.hid ⟨HB1.out.trans (hb12.mono HB1.out.size), by rw [← hm]; exact HB1.out.size, by rw [← hw2, blk_old _ _ _ (by simp; omega)]; exact blk_new _ _ _ hm, by rw [← hw2]; exact blk_new _ _ _ (by simp [hm])⟩
    have HL2 := Lib.hid (HL.out.below hb12)
    clear hb12 hw2 HL HB1 hm
    refine (failG b 1 [] [] 0 (-1) false af w2 HL2.out).mono ?_
    rintro e w3 ⟨rfl, hL3, hg3⟩
    rw [show max (-1) af = af by omega] at hL3
    have HL3 := Lib.hid hL3
    have HKp3 := Lib.hid (HKp.out.gb hg3 hb hbm)
    clear hL3 hg3 HL2 HKp
    go_wp2
    go_loopw [10, 11] (fun st i wr => ∃ k : Nat, (k : Int) ≤ mn ∧ st = .int .i64 k ∧ i = .int .i64 k ∧ Kp w wr m ∧ (((k : Int) ≤ af ∧ ∃ s, LG wr b 1 (sdB k) [] s (af - k) false) ∨ (af < k ∧ ∃ n part s, n ≤ 5 ∧ LG wr b 1 (sdB n) part s (-1) true))) (fun _ i _ => mn.toNat - (intOf i).toNat)
    case atStart => exact ⟨0, by omega, rfl, rfl, HKp3.out, .inl ⟨by omega, 0, by rw [show af - ((0 : Nat) : Int) = af by simp]; exact HL3.out⟩⟩
    case round =>
      obtain ⟨k, hk, rfl, rfl, hKp, hL⟩ := hrel
      by_cases hlt : (k : Int) < mn
      · rcases hL with ⟨hka, s, hL⟩ | ⟨hka, n, part, s, hn, hL⟩
        · have HKp := Lib.hid hKp
          have HL := Lib.hid hL
          clear hKp hL
          go_wp2_with fail
          refine (sayBadG (P := fun _ => True) b 1 (sdB k) [] s (af - k) wr HL.out a0 (.slice none 0 0) (.slice none 0 0) (.inl ⟨none, rfl, rfl⟩) (.inl ⟨none, rfl, rfl⟩) (HK.out.keep HKp.out.1) true (by rw [chk0]; decide)).mono ?_
          rw [chk0, errV_ne (by decide)]
          rintro e w4 ⟨rfl, hb4⟩
          have HKp4 := Lib.hid (HKp.out.below hb4)
          have HL4 := Lib.hid (HL.out.below hb4)
          obtain ⟨x0, x1, x2, x3⟩ := HKp4.out.cells
          clear hb4
          go_wp2_with fail
          refine (sayB (P := fun _ => True) b k s (af - k) w4 HL4.out (by omega) _ _ HKp4.out.ints (.inl ⟨none, rfl, rfl⟩) (HK.out.keep HKp4.out.1) (HP.out.keep HKp4.out.1) hkb (by omega)).mono ?_
          rintro e w5 ⟨hg5, h5⟩
          have HKp5 := Lib.hid (HKp4.out.gb hg5 hb hbm)
          clear hg5 x0 x1 x2 x3
          rcases h5 with ⟨h0, part, rfl, hL5⟩ | ⟨h0, rfl, hL5⟩
          · have hEQ : ((k : Int) == af) = true := by simpa using (show (k : Int) = af by omega)
            rw [errV_ne (by decide)]
            have HL5 := Lib.hid hL5
            clear hL5
            have E1 := Lib.hid (same_error 1 6 w5 (HE.out.keep HKp5.out.1))
            rw [errV_ne (by decide)] at E1
            go_wp2_with fail
            refine E1.out.mono ?_
            rintro e w6 ⟨rfl, hb6⟩
            have HKp6 := Lib.hid (HKp5.out.below hb6)
            have HL6 := Lib.hid (HL5.out.below hb6)
            clear hb6
            have E2 := Lib.hid (same_error 1 1 w6 (HE.out.keep HKp6.out.1))
            rw [errV_ne (by decide)] at E2
            go_wp2_with fail
            refine E2.out.mono ?_
            rintro e w7 ⟨rfl, hb7⟩
            have HKp7 := Lib.hid (HKp6.out.below hb7)
            have HL7 := Lib.hid (HL6.out.below hb7)
            clear hb7
            have E3 := Lib.hid (same_error 6 6 w7 (HE.out.keep HKp7.out.1))
            rw [errV_ne (by decide)] at E3
            go_wp2_with fail
            refine E3.out.mono ?_
            rintro e w8 ⟨rfl, hb8⟩
            have HKp8 := Lib.hid (HKp7.out.below hb8)
            have HL8 := Lib.hid (HL7.out.below hb8)
            clear hb8
            go_wp2
            exact ⟨⟨k + 1, by omega, by go_num, by go_num, HKp8.out, .inr ⟨by omega, k, part, s, by omega, HL8.out⟩⟩, by simp [intOf]; omega⟩
          · have hEQ : ((k : Int) == af) = false := by simpa using (show ¬ (k : Int) = af by omega)
            have hLT : (k : Int) < af := by omega
            have HL5 := Lib.hid hL5
            clear hL5
            have E1 := Lib.hid (same_error 1 6 w5 (HE.out.keep HKp5.out.1))
            rw [errV_ne (by decide)] at E1
            go_wp2_with fail
            refine E1.out.mono ?_
            rintro e w6 ⟨rfl, hb6⟩
            have HKp6 := Lib.hid (HKp5.out.below hb6)
            have HL6 := Lib.hid (HL5.out.below hb6)
            clear hb6
            have E2 := Lib.hid (same_error 1 1 w6 (HE.out.keep HKp6.out.1))
            rw [errV_ne (by decide)] at E2
            go_wp2_with fail
            refine E2.out.mono ?_
            rintro e w7 ⟨rfl, hb7⟩
            have HKp7 := Lib.hid (HKp6.out.below hb7)
            have HL7 := Lib.hid (HL6.out.below hb7)
            clear hb7
            have E3 := Lib.hid (same_error 0 6 w7 (HE.out.keep HKp7.out.1))
            rw [errV_zero] at E3
            go_wp2_with fail
            refine E3.out.mono ?_
            rintro e w8 ⟨rfl, hb8⟩
            have HKp8 := Lib.hid (HKp7.out.below hb8)
            have HL8 := Lib.hid (HL7.out.below hb8)
            clear hb8
            go_wp2
            exact ⟨⟨k + 1, by omega, by go_num, by go_num, HKp8.out, .inl ⟨by omega, s, by have h := HL8.out; rwa [show max (-1) (af - (k : Int) - 1) = af - ((k + 1 : Nat) : Int) by omega] at h⟩⟩, by simp [intOf]; omega⟩
        · have HKp := Lib.hid hKp
          have HL := Lib.hid hL
          clear hKp hL
          go_wp2_with fail
          refine (sayStopG (P := fun _ => True) b 1 (sdB n) part s (-1) wr HL.out a0 (.slice none 0 0) (.slice none 0 0) (.inl ⟨none, rfl, rfl⟩) (.inl ⟨none, rfl, rfl⟩) true).mono ?_
          rw [errV_ne (by decide)]
          rintro e w4 ⟨rfl, hb4⟩
          have HKp4 := Lib.hid (HKp.out.below hb4)
          have HL4 := Lib.hid (HL.out.below hb4)
          obtain ⟨x0, x1, x2, x3⟩ := HKp4.out.cells
          clear hb4
          go_wp2_with fail
          refine (sayStopG (P := fun _ => True) b 1 (sdB n) part s (-1) w4 HL4.out aB _ _ HKp4.out.ints (.inl ⟨none, rfl, rfl⟩) true).mono ?_
          rw [errV_ne (by decide)]
          rintro e w5 ⟨rfl, hb5⟩
          have HKp5 := Lib.hid (HKp4.out.below hb5)
          have HL5 := Lib.hid (HL4.out.below hb5)
          have hEQ : ((k : Int) == af) = false := by simpa using (show ¬ (k : Int) = af by omega)
          clear hb5 x0 x1 x2 x3
          have E1 := Lib.hid (same_error 6 6 w5 (HE.out.keep HKp5.out.1))
          rw [errV_ne (by decide)] at E1
          go_wp2_with fail
          refine E1.out.mono ?_
          rintro e w6 ⟨rfl, hb6⟩
          have HKp6 := Lib.hid (HKp5.out.below hb6)
          have HL6 := Lib.hid (HL5.out.below hb6)
          clear hb6
          have E2 := Lib.hid (same_error 6 1 w6 (HE.out.keep HKp6.out.1))
          rw [errV_ne (by decide)] at E2
          go_wp2_with fail
          refine E2.out.mono ?_
          rintro e w7 ⟨rfl, hb7⟩
          have HKp7 := Lib.hid (HKp6.out.below hb7)
          have HL7 := Lib.hid (HL6.out.below hb7)
          clear hb7
          have E3 := Lib.hid (same_error 6 6 w7 (HE.out.keep HKp7.out.1))
          rw [errV_ne (by decide)] at E3
          go_wp2_with fail
          refine E3.out.mono ?_
          rintro e w8 ⟨rfl, hb8⟩
          have HKp8 := Lib.hid (HKp7.out.below hb8)
          have HL8 := Lib.hid (HL7.out.below hb8)
          clear hb8
          go_wp2
          exact ⟨⟨k + 1, by omega, by go_num, by go_num, HKp8.out, .inr ⟨by omega, n, part, s, hn, HL8.out⟩⟩, by simp [intOf]; omega⟩
      · have hL' : ((k : Int) ≤ af ∧ ∃ n s, n ≤ 5 ∧ LG wr b 1 (sdB n) [] s (af - k) false) ∨ (af < k ∧ ∃ n part s, n ≤ 5 ∧ LG wr b 1 (sdB n) part s (-1) true) := by
          rcases hL with ⟨h1, s, h2⟩ | h
          · exact .inl ⟨h1, k, s, by omega, h2⟩
          · exact .inr h
        have HKp := Lib.hid hKp
        have HL' := Lib.hid hL'
        have hk6 : k ≤ 6 := by omega
        clear hKp hL hL'
        go_wp2
        go_loopw [10] (fun st wx => ∃ k : Nat, k ≤ 6 ∧ st = .int .i64 k ∧ Kp w wx m ∧ (((k : Int) ≤ af ∧ ∃ n s, n ≤ 5 ∧ LG wx b 1 (sdB n) [] s (af - k) false) ∨ (af < k ∧ ∃ n part s, n ≤ 5 ∧ LG wx b 1 (sdB n) part s (-1) true))) (fun st _ => 6 - (intOf st).toNat)
        case atStart => exact ⟨k, hk6, rfl, HKp.out, HL'.out⟩
        case round =>
          clear HKp HL' hk6 hlt hk
          obtain ⟨j, hj, rfl, hKp, hL⟩ := hrel
          have HKp := Lib.hid hKp
          clear hKp
          rcases hL with ⟨hja, n, s, hn, hL⟩ | ⟨hja, n, part, s, hn, hL⟩
          · have HL := Lib.hid hL
            clear hL
            go_wp2_with fail
            refine (syncG b 1 (sdB n) s (af - j) _ HL.out (by omega)).mono ?_
            rintro e w4 ⟨h4, hg4⟩
            have HKp4 := Lib.hid (HKp.out.gb hg4 hb hbm)
            clear hg4
            rcases h4 with ⟨h0, rfl, hL4⟩ | ⟨h0, rfl, hL4⟩
            · have hEQ : ((j : Int) == af) = true := by simpa using (show (j : Int) = af by omega)
              rw [errV_ne (by decide)]
              have HL4 := Lib.hid hL4
              clear hL4
              go_wp2
              exact ⟨⟨j + 1, by omega, by go_num, HKp4.out, .inr ⟨by omega, n, [], s, hn, HL4.out⟩⟩, by simp [intOf]; omega⟩
            · have hEQ : ((j : Int) == af) = false := by simpa using (show ¬ (j : Int) = af by omega)
              have HL4 := Lib.hid hL4
              clear hL4
              go_wp2
              exact ⟨⟨j + 1, by omega, by go_num, HKp4.out, .inl ⟨by omega, n, szOf (sdB n) [], hn, by have h := HL4.out; rwa [show max (-1) (af - (j : Int) - 1) = af - ((j + 1 : Nat) : Int) by omega] at h⟩⟩, by simp [intOf]; omega⟩
          · have HL := Lib.hid hL
            clear hL
            go_wp2_with fail
            refine (syncStopG b 1 (sdB n) part s (-1) _ HL.out).mono ?_
            rw [errV_ne (by decide)]
            rintro e w4 ⟨rfl, hb4⟩
            have HKp4 := Lib.hid (HKp.out.below hb4)
            have HL4 := Lib.hid (HL.out.below hb4)
            obtain ⟨x0, x1, x2, x3⟩ := HKp4.out.cells
            clear hb4 HKp HL
            go_wp2_with fail
            refine (sayStopG (P := fun _ => True) b 1 (sdB n) part s (-1) w4 HL4.out aB _ _ HKp4.out.ints (.inl ⟨none, rfl, rfl⟩) true).mono ?_
            rw [errV_ne (by decide)]
            rintro e w5 ⟨rfl, hb5⟩
            have HKp5 := Lib.hid (HKp4.out.below hb5)
            have HL5 := Lib.hid (HL4.out.below hb5)
            have E1 := Lib.hid (same_error 6 6 w5 (HE.out.keep HKp5.out.1))
            rw [errV_ne (by decide)] at E1
            clear hb5 x0 x1 x2 x3 HKp4 HL4
            go_wp2_with fail
            refine E1.out.mono ?_
            rintro e w6 ⟨rfl, hb6⟩
            have HKp6 := Lib.hid (HKp5.out.below hb6)
            have HL6 := Lib.hid (HL5.out.below hb6)
            have E2 := Lib.hid (same_error 6 6 w6 (HE.out.keep HKp6.out.1))
            rw [errV_ne (by decide)] at E2
            clear hb6 HKp5 HL5 E1
            go_wp2_with fail
            refine E2.out.mono ?_
            rintro e w7 ⟨rfl, hb7⟩
            have HKp7 := Lib.hid (HKp6.out.below hb7)
            have HL7 := Lib.hid (HL6.out.below hb7)
            clear hb7 HKp6 HL6 E2
            go_wp2_with fail
            refine (crashG b 1 (sdB n) part s (-1) true kp w7 HL7.out).mono ?_
            rintro e w8 ⟨rfl, hg8, hL8⟩
            obtain ⟨q, hq, hqe⟩ := sdB_take n (whole ((sdB n).map fun p => (lineL p).length) (s + max 0 (min kp (szOf (sdB n) part - s))).toNat)
            rw [hqe] at hL8
            have HKp8 := Lib.hid (HKp7.out.gb hg8 hb hbm)
            have HL8 := Lib.hid hL8
            have hq5 : q ≤ 5 := by omega
            clear hg8 hL8 hqe HKp7 HL7 hq hn hja
            go_wp2_with fail
            refine (allG b 1 (sdB q) [] _ (-1) false w8 HL8.out).mono ?_
            rintro e w9 ⟨v9, rfl, hO9, hb9⟩
            obtain ⟨a9, c9, rfl⟩ := ownF_len hO9
            have HKp9 := Lib.hid (HKp8.out.below hb9)
            have HL9 := Lib.hid (HL8.out.below hb9)
            rw [List.length_map, sdB_len]
            clear hb9 hO9 HKp8 HL8
            go_wp2_with fail
            have HL10 := Lib.hid (HL9.out.below ((Below.refl w9.heap.size w9).alloc (Nat.le_refl _) (.cells #[.int .i64 2] 3)))
            have HKp10 := Lib.hid (HKp9.out.below ((Below.refl w9.heap.size w9).alloc (Nat.le_refl _) (.cells #[.int .i64 2] 3)))
            have HSC := Lib.hid (someC ⟨q, by omega⟩)
            refine (sayG (P := fun _ => True) b 1 (sdB q) _ (-1) _ HL10.out (by rw [sdB_len]; omega) (by omega) aC _ _ (ints_one (blk_new _ _ _ rfl) (Nat.le_refl _) (by unfold maxLen; omega)) (.inl ⟨none, rfl, rfl⟩) (HK.out.keep HKp10.out.1) true chkC (HP.out.keep HKp10.out.1) hkb (by omega)).mono ?_
            intro e w11 h11
            rw [if_pos HSC.out, if_neg (by decide)] at h11
            obtain ⟨rfl, hL11, hg11⟩ := h11
            have HKp11 := Lib.hid (HKp10.out.gb hg11 hb hbm)
            have HL11 := Lib.hid hL11
            clear hL11 hg11 HKp10 HL10 HL9 HKp9
            go_wp2_with fail
            refine (syncG b 1 (sdB q ++ [(aC, true)]) _ _ _ HL11.out (by decide)).mono ?_
            rintro e w12 ⟨⟨h0, _⟩ | ⟨-, rfl, hL12⟩, hg12⟩
            · exact absurd h0 (by decide)
            have HKp12 := Lib.hid (HKp11.out.gb hg12 hb hbm)
            have HL12 := Lib.hid hL12
            clear hL12 hg12 HKp11 HL11
            go_wp2_with fail
            refine (allG b 1 (sdB q ++ [(aC, true)]) [] _ _ false w12 HL12.out).mono ?_
            rintro e w13 ⟨v13, rfl, hO13, hb13⟩
            have HKp13 := Lib.hid (HKp12.out.below hb13)
            have HL13 := Lib.hid (HL12.out.below hb13)
            clear hb13 HKp12 HL12
            obtain ⟨g, cap, ab, ao, ac, co, cn, cc, sb, so, sc, rfl, y1, y2, y3, y4, y5, y6, y7, y8, y9, y10, y11⟩ := last_cells hO13
            have HFM := Lib.hid y5
            obtain ⟨z, hz⟩ : ∃ z, szOf (sdB q ++ [(aC, true)]) [] = z := ⟨_, rfl⟩
            rw [hz] at HL13
            have HZ := Lib.hid hz
            have hqi : (q : Int) + 1 ≤ 6 := by omega
            clear hO13 y5 hz
            go_wp2_with fail
            refine (formCheck_any (P := fun _ => True) _ _ (aloneF aC true) w13 HFM.out (HK.out.keep HKp13.out.1)).mono ?_
            rw [aloneF_check chkC true, errV_zero]
            rintro e w14 ⟨rfl, hb14⟩
            have u3 := (hb14.cell (p := ⟨g, q * 2, none⟩) y2).trans y3
            have u8 := (hb14.cell (p := ⟨ab, ao + 1, none⟩) y6).trans y7
            have u10 := (hb14.cell (p := ⟨sb, so, none⟩) y8).trans y9
            have HKp14 := Lib.hid (HKp13.out.below hb14)
            have HL14 := Lib.hid (HL13.out.below hb14)
            clear hb14 HKp13 HL13 y3 y4 y7 y9
            go_wp2_with fail
            refine (safeG b 1 _ [] _ _ false w14 HL14.out).mono ?_
            rintro e w15 ⟨rfl, rfl⟩
            go_wp2_with fail
            refine (bytesG b 1 _ [] _ _ false w14 HL14.out).mono ?_
            rw [HZ.out]
            rintro e w15 ⟨rfl, rfl⟩
            go_wp2
            go_ret
            exact ⟨by simp, HKp14.out.1⟩
end Go.Proofs.YtpfinfneclmjkaaGreatDoor
