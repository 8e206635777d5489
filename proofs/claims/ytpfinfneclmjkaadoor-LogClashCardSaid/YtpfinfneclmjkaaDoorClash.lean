/- LogClash: the law's walk. Conditions: the atom's terms lie; the tables and the variable of the error type lie as their texts lay them. -/
import Derived.Test.YtpfinfneclmjkaaDoorSay2
import Derived.Test.YtpfinfneclmjkaaDoorClashP
import Derived.Test.YtpfinfneclmjkaaDoorLogAll
import Derived.Test.YtpfinfneclmjkaaDoorLogOpen
import Derived.Test.YtpfinfneclmjkaaDoorTold
namespace Go.Proofs.YtpfinfneclmjkaaDoor
open Go.RowKit V

/-- a new formula said, at a log that has not failed -/
theorem say_ok {P : Nat → Prop} (b : Nat) (u : Int) (said : List Fm) (y : ByteArray) (s : Int) (w : World) (h : LogIs w b u said y s (-1) false) (hF : ∀ f ∈ said, formCheck f = 0) (hn : said.length < 6) (hu : 0 ≤ u ∧ u ≤ 6)
    (a : At) (va vt : Value) (hs : Ints P w va a.s) (ht : Ints P w vt a.t) (hk : Kinds w) (hold : Bool) (hc : atomCheck a = 0) (hp : PowTab w) (hkb : 0 < b) (hy : y.size ≤ 1000000000) :
    Calls Tryd.prog 7 #[.pointer (some ⟨b, 0, none⟩), .agg #[.int .i64 a.what, va, vt, .int .i64 a.n], .bool hold] w
      fun e w' => (someW (said ++ [aloneF a hold]) u = true ∧ e = .returned .nilIface ∧ LogIs w' b u (said ++ [aloneF a hold]) (y ++ lineB a hold) s (-1) false ∧ w.grownBy w' (some b)) ∨ (someW (said ++ [aloneF a hold]) u = false ∧ e = .returned (errV 7) ∧ Below w.heap.size w w') := by
  obtain ⟨vs, hL, hV⟩ := h
  refine (say_new b u vs y s (-1) said w hL hV hF hn hu a va vt hs ht hk hold hc hp hkb ⟨by omega, by omega⟩ hy).mono ?_
  intro e w' hS
  unfold SayNew at hS
  split at hS
  · rename_i h1
    rw [if_neg (by omega)] at hS
    exact .inl ⟨h1, hS⟩
  · rename_i h1
    exact .inr ⟨by simpa using h1, hS⟩

/-- any atom said -/
theorem say_first {P : Nat → Prop} (b : Nat) (u : Int) (said : List Fm) (y : ByteArray) (s : Int) (w : World) (h : LogIs w b u said y s (-1) false) (hF : ∀ f ∈ said, formCheck f = 0) (hn : said.length < 6) (hu : 0 ≤ u ∧ u ≤ 6)
    (a : At) (va vt : Value) (hs : Ints P w va a.s) (ht : Ints P w vt a.t) (hk : Kinds w) (hold : Bool) (hp : PowTab w) (hkb : 0 < b) (hy : y.size ≤ 1000000000) :
    Calls Tryd.prog 7 #[.pointer (some ⟨b, 0, none⟩), .agg #[.int .i64 a.what, va, vt, .int .i64 a.n], .bool hold] w
      fun e w' => (∃ c, c ≠ 0 ∧ e = .returned (errV c) ∧ Below w.heap.size w w') ∨ (atomCheck a = 0 ∧ someW (said ++ [aloneF a hold]) u = true ∧ e = .returned .nilIface ∧ LogIs w' b u (said ++ [aloneF a hold]) (y ++ lineB a hold) s (-1) false ∧ w.grownBy w' (some b)) := by
  by_cases hc : atomCheck a = 0
  · refine (say_ok b u said y s w h hF hn hu a va vt hs ht hk hold hc hp hkb hy).mono ?_
    rintro e w' (⟨h1, h2, h3, h4⟩ | ⟨h1, h2, h3⟩)
    · exact .inr ⟨hc, h1, h2, h3, h4⟩
    · exact .inl ⟨7, by decide, h2, h3⟩
  · obtain ⟨vs, hL, _⟩ := h
    refine (say_bad b u vs y s (-1) w hL a va vt hs ht hk hold hc).mono ?_
    rintro e w' ⟨h1, h2⟩
    exact .inl ⟨_, hc, h1, h2⟩
theorem LogIs.below {w w' : World} {b : Nat} {u : Int} {said : List Fm} {y : ByteArray} {s l : Int} {st : Bool} (h : LogIs w b u said y s l st) (hb : Below w.heap.size w w') : LogIs w' b u said y s l st := by
  obtain ⟨vs, h1, h2⟩ := h
  exact ⟨vs, h1.below hb h1.lt, h2.below hb⟩
theorem LogIs.lt {w : World} {b : Nat} {u : Int} {said : List Fm} {y : ByteArray} {s l : Int} {st : Bool} (h : LogIs w b u said y s l st) : b < w.heap.size := by
  obtain ⟨vs, h1, h2⟩ := h
  exact h1.lt

set_option maxHeartbeats 2000000 in
set_option maxRecDepth 100000 in
theorem clash_any {P : Nat → Prop} (vs vt : Value) (a : At) (u : Int) (w : World) (hs : Ints P w vs a.s) (ht : Ints P w vt a.t) (hk : Kinds w) (hp : PowTab w) (hE : ErrT w) :
    Calls Tryd.prog 3 #[.agg #[.int .i64 a.what, vs, vt, .int .i64 a.n], .int .i64 u] w fun e w' => e = .returned (.bool true) ∧ Below w.heap.size w w' := by
  obtain ⟨sa, sc, rfl⟩ := hs.form
  obtain ⟨ta, tc, rfl⟩ := ht.form
  have HS := Lib.hid hs
  have HT := Lib.hid ht
  have HK := Lib.hid hk
  have HP := Lib.hid hp
  have HE := Lib.hid hE
  clear hs ht hk hp hE
  by_cases hu : 0 ≤ u ∧ u ≤ 6
  · go_enter Tryd.func3, Tryd.ntmps3
    go_wp2_with fail
    refine (new_any u _ hu).mono ?_
    rintro e w1 ⟨b, rfl, hb, hL, hb1⟩
    simp only [World.size_alloc] at hb hb1
    have hb1' : Below w.heap.size w w1 := ((Below.refl w.heap.size w).alloc (Nat.le_refl _) _).trans (hb1.mono (by omega))
    have kbox : w1.heap[w.heap.size]? = some (.cells #[.int .i64 a.what, .slice sa a.s.length sc, .slice ta a.t.length tc, .int .i64 a.n] 24 (0, 0)) := (hb1.block w.heap.size (by omega)).trans (blk_new _ _ _ rfl)
    have x0 : w1.cell? ⟨w.heap.size, 0, none⟩ = some (.int .i64 a.what) := cell_blk kbox rfl
    have x1 : w1.cell? ⟨w.heap.size, 1, none⟩ = some (.slice sa a.s.length sc) := cell_blk kbox rfl
    have x2 : w1.cell? ⟨w.heap.size, 2, none⟩ = some (.slice ta a.t.length tc) := cell_blk kbox rfl
    have x3 : w1.cell? ⟨w.heap.size, 3, none⟩ = some (.int .i64 a.n) := cell_blk kbox rfl
    have HL : Hid (LogIs w1 b u [] ⟨#[]⟩ 0 (-1) false) := Lib.hid ⟨_, hL, .inl ⟨rfl, rfl⟩⟩
    have HB1 := Lib.hid hb1'
    have KB := Lib.hid kbox
    have hkb : 0 < b := by have := HK.out.size; omega
    clear hL hb1 hb1' kbox
    go_wp2_with fail
    refine (say_first (P := P) b u [] ⟨#[]⟩ 0 w1 HL.out (fun f hf => by simp at hf) (by simp) hu a (.slice sa a.s.length sc) (.slice ta a.t.length tc) (HS.out.below HB1.out) (HT.out.below HB1.out) (HK.out.keep HB1.out) true (HP.out.keep HB1.out) hkb (Nat.zero_le _)).mono ?_
    rintro e w2 (⟨c, hc, rfl, hb2⟩ | ⟨hA, hsm, rfl, hL2, hg2⟩)
    · rw [errV_ne hc]
      have HL2 := Lib.hid (HL.out.below hb2)
      have HB2 := Lib.hid (HB1.out.trans (hb2.mono HB1.out.size))
      clear hb2 x0 x1 x2 x3 hc
      obtain ⟨vs2, hLA, hFs⟩ := HL2.out
      have HLA := Lib.hid hLA
      have HFs := Lib.hid hFs
      clear hLA hFs
      go_wp2_with fail
      refine (bytes_any b u vs2 _ 0 (-1) false w2 HLA.out).mono ?_
      rintro e w' ⟨rfl, rfl⟩
      go_wp2_with fail
      refine (logAll_any b u vs2 _ 0 (-1) false [] w2 HLA.out HFs.out (fun f hf => by simp at hf) (by simp)).mono ?_
      rintro e w3 ⟨v3, rfl, hO3, hb3⟩
      have hv3 : ∃ ao cap, v3 = .slice ao 0 cap := by
        rcases hO3.form with ⟨h, _⟩ | ⟨g, cap, h, _⟩
        · exact ⟨_, _, h⟩
        · exact ⟨_, _, h⟩
      obtain ⟨a3, c3, rfl⟩ := hv3
      have HLA3 := Lib.hid (HLA.out.below hb3 HLA.out.lt)
      have HFs3 := Lib.hid (HFs.out.below hb3)
      have HB3 := Lib.hid (HB2.out.trans (hb3.mono HB2.out.size))
      have HO := Lib.hid (logOpen_any b u vs2 _ 0 (-1) false [] w3 HLA3.out HFs3.out (fun f hf => by simp at hf) (HK.out.keep HB3.out) hu)
      rw [some_nil hu.1 hu.2] at HO
      clear hO3 hb3
      go_wp2_with fail
      refine HO.out.mono ?_
      rintro e w4 ⟨rfl, hb4⟩
      have HB4 := Lib.hid (HB3.out.trans (hb4.mono HB3.out.size))
      clear hb4
      go_wp2
      go_ret
      exact ⟨rfl, HB4.out⟩
    · have hF2 : ∀ f ∈ [] ++ [aloneF a true], formCheck f = 0 := fun f hf => by
        simp at hf; rw [hf]; exact aloneF_check hA true
      have HF2 := Lib.hid hF2
      have HA := Lib.hid hA
      have HSM := Lib.hid hsm
      have HL2 := Lib.hid hL2
      have hz1 := HB1.out.size
      have hlb := HL.out.lt
      have HB2 := Lib.hid (HB1.out.trans (gb_belowB (C := w1) hg2 (by omega) hz1))
      have kb2 := (hg2.block w.heap.size (by omega) (by simp; omega)).trans KB.out
      have y0 : w2.cell? ⟨w.heap.size, 0, none⟩ = some (.int .i64 a.what) := cell_blk kb2 rfl
      have y1 : w2.cell? ⟨w.heap.size, 1, none⟩ = some (.slice sa a.s.length sc) := cell_blk kb2 rfl
      have y2 : w2.cell? ⟨w.heap.size, 2, none⟩ = some (.slice ta a.t.length tc) := cell_blk kb2 rfl
      have y3 : w2.cell? ⟨w.heap.size, 3, none⟩ = some (.int .i64 a.n) := cell_blk kb2 rfl
      have KB2 := Lib.hid kb2
      obtain ⟨vs2, hLA, hFs⟩ := HL2.out
      have HLA := Lib.hid hLA
      obtain ⟨yy, hyy⟩ : ∃ yy, (⟨#[]⟩ : ByteArray) ++ lineB a true = yy := ⟨_, rfl⟩
      have hys : 2 ≤ yy.size ∧ yy.size ≤ 2000 := by
        rw [← hyy, ByteArray.size_append]
        have h1 := atomText_size hA
        unfold lineB signL
        rw [if_pos rfl, line_size]
        show 2 ≤ 0 + ((atomText a).size + 2) ∧ 0 + ((atomText a).size + 2) ≤ 2000
        omega
      rw [hyy] at HLA HL2
      have HY := Lib.hid hys
      clear hF2 hA hsm hL2 hg2 kb2 x0 x1 x2 x3 hLA hFs hyy
      go_wp2_with fail
      refine (bytes_any b u vs2 yy 0 (-1) false w2 HLA.out).mono ?_
      rintro e w' ⟨rfl, rfl⟩
      go_wp2_with fail
      refine (say_ok (P := P) b u ([] ++ [aloneF a true]) yy 0 w2 HL2.out HF2.out (by simp) hu a (.slice sa a.s.length sc) (.slice ta a.t.length tc) (HS.out.below HB2.out) (HT.out.below HB2.out) (HK.out.keep HB2.out) false HA.out (HP.out.keep HB2.out) hkb (by omega)).mono ?_
      rintro e w3 (⟨h, _⟩ | ⟨-, rfl, hb3⟩)
      · have := some_clash a u
        rw [List.nil_append] at h
        rw [this] at h
        cases h
      rw [errV_ne (by decide)]
      have HL3 := Lib.hid (HL2.out.below hb3)
      have HB3 := Lib.hid (HB2.out.trans (hb3.mono HB2.out.size))
      have hl2 : w.heap.size < w2.heap.size := (Array.getElem?_eq_some_iff.1 KB2.out).1
      have kb3 := (hb3.block w.heap.size hl2).trans KB2.out
      have z0 : w3.cell? ⟨w.heap.size, 0, none⟩ = some (.int .i64 a.what) := cell_blk kb3 rfl
      have z1 : w3.cell? ⟨w.heap.size, 1, none⟩ = some (.slice sa a.s.length sc) := cell_blk kb3 rfl
      have z2 : w3.cell? ⟨w.heap.size, 2, none⟩ = some (.slice ta a.t.length tc) := cell_blk kb3 rfl
      have z3 : w3.cell? ⟨w.heap.size, 3, none⟩ = some (.int .i64 a.n) := cell_blk kb3 rfl
      clear y0 y1 y2 y3 hb3 kb3 HLA
      go_wp2_with fail
      refine (say_ok (P := P) b u ([] ++ [aloneF a true]) yy 0 w3 HL3.out HF2.out (by simp) hu a (.slice sa a.s.length sc) (.slice ta a.t.length tc) (HS.out.below HB3.out) (HT.out.below HB3.out) (HK.out.keep HB3.out) true HA.out (HP.out.keep HB3.out) hkb (by omega)).mono ?_
      have hsm2 : someW ([] ++ [aloneF a true] ++ [aloneF a true]) u = true := by
        rw [List.nil_append, some_twice]; exact HSM.out
      intro e w4 h4
      refine Or.elim h4 (fun ⟨_, he, hL4, hg4⟩ => ?_) (fun ⟨h, _⟩ => absurd (hsm2.symm.trans h) (by simp))
      subst he
      clear h4
      have hz3 := HB3.out.size
      have HB4 := Lib.hid (HB3.out.trans (gb_belowB (C := w3) hg4 (by omega) hz3))
      obtain ⟨vs4, hLA4, hFs4⟩ := hL4
      have HLA4 := Lib.hid hLA4
      have HFs4 := Lib.hid hFs4
      have HSM2 := Lib.hid hsm2
      have HF4 : Hid (∀ f ∈ [] ++ [aloneF a true] ++ [aloneF a true], formCheck f = 0) := Lib.hid fun f hf => by
        simp at hf; rw [hf]; exact aloneF_check HA.out true
      have HE4 := Lib.hid (same_error 7 7 w4 (HE.out.keep HB4.out))
      rw [errV_ne (by decide)] at HE4
      clear z0 z1 z2 z3 hg4 hLA4 hFs4 hsm2
      have hy2 : (2 : Int) ≤ (yy.size : Int) := by have := HY.out.1; omega
      go_wp2_with fail
      refine HE4.out.mono ?_
      rintro e w5 ⟨rfl, hb5⟩
      have HB5 := Lib.hid (HB4.out.trans (hb5.mono HB4.out.size))
      have HLA5 := Lib.hid (HLA4.out.below hb5 HLA4.out.lt)
      have HFs5 := Lib.hid (HFs4.out.below hb5)
      have HO := Lib.hid (logOpen_any b u vs4 _ 0 (-1) false _ w5 HLA5.out HFs5.out HF4.out (HK.out.keep HB5.out) hu)
      rw [HSM2.out] at HO
      clear hb5
      go_wp2_with fail
      refine HO.out.mono ?_
      rintro e w6 ⟨rfl, hb6⟩
      have HB6 := Lib.hid (HB5.out.trans (hb6.mono HB5.out.size))
      have HLA6 := Lib.hid (HLA5.out.below hb6 HLA5.out.lt)
      have HFs6 := Lib.hid (HFs5.out.below hb6)
      have HAL := Lib.hid (logAll_any b u vs4 _ 0 (-1) false _ w6 HLA6.out HFs6.out HF4.out (by simp))
      clear hb6
      go_wp2_with fail
      refine HAL.out.mono ?_
      rintro e w7 ⟨v7, rfl, hO7, hb7⟩
      have hv7 : ∃ ao cap, v7 = .slice ao 2 cap := by
        rcases hO7.form with ⟨_, h⟩ | ⟨g, cap, h, _⟩
        · simp at h
        · exact ⟨_, _, h⟩
      obtain ⟨a7, c7, rfl⟩ := hv7
      have HB7 := Lib.hid (HB6.out.trans (hb7.mono HB6.out.size))
      clear hO7 hb7
      go_wp2
      go_ret
      exact ⟨rfl, HB7.out⟩
  · have h : u < 0 ∨ 6 < u := by omega
    have HU := Lib.hid hu
    clear hu
    rcases h with h | h
    · go_enter Tryd.func3, Tryd.ntmps3
      go_wp2_with fail
      refine (new_bad u _ HU.out).mono ?_
      rw [errV_ne (by decide)]
      rintro e w1 ⟨rfl, rfl⟩
      go_wp2
      go_ret
      exact ⟨rfl, (Below.refl _ _).alloc (Nat.le_refl _) _⟩
    · have h' : ¬ u < 0 := by omega
      go_enter Tryd.func3, Tryd.ntmps3
      go_wp2_with fail
      refine (new_bad u _ HU.out).mono ?_
      rw [errV_ne (by decide)]
      rintro e w1 ⟨rfl, rfl⟩
      go_wp2
      go_ret
      exact ⟨rfl, (Below.refl _ _).alloc (Nat.le_refl _) _⟩
end Go.Proofs.YtpfinfneclmjkaaDoor
