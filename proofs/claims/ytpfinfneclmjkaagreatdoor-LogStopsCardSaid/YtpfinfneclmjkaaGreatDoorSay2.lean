/- The log's Say, where a new formula is told. Conditions: the log lies in a block behind the tables; what was said lies, and is right; the tables of the kinds and of the powers lie as their texts lay them. -/
import Derived.Test.YtpfinfneclmjkaaGreatDoorSay
import Derived.Test.YtpfinfneclmjkaaGreatDoorLogAll
namespace Go.Proofs.YtpfinfneclmjkaaGreatDoor
open Go.RowKit V

theorem Kinds.gb {w w' : World} {b : Nat} (h : Kinds w) (hg : w.grownBy w' (some b)) (hb : 0 < b) : Kinds w' := fun m hm => by
  have h' := h m hm
  exact ⟨hg.cell h'.1 (by simp; omega), hg.cell h'.2.1 (by simp; omega), hg.cell h'.2.2 (by simp; omega)⟩

theorem OwnF.far {B : Nat} {P : Nat → Prop} {w w' : World} {v : Value} {l : List Fm} (h : OwnF B P w v l) (hg : w.grownBy w' v.ownBlock) {q : Nat} (hq : q < B) (hB : B ≤ w.heap.size) : w'.heap[q]? = w.heap[q]? :=
  hg.block q (by omega) fun e => by
    obtain ⟨xs, ho, _⟩ := h
    have := (World.ownsRow.lt ho q e.symm).1
    omega
/-- what the append of the new formula asks -/
theorem say_row {w1 w2 w3 : World} {b : Nat} {v2 : Value} {said : List Fm} {f : Fm} {p3 r3 : Option Addr} {n1 q3 n2 t3 : Nat} (h2 : OwnF w1.drew.heap.size (fun k => k ≠ b ∧ k < w1.drew.heap.size) w2 v2 said) (hb2 : Below w1.heap.size w1.drew w2)
    (hf : FmV (fun k => w2.heap.size ≤ k) w3 (.slice p3 n1 q3) (.slice r3 n2 t3) f) (hb3 : Below w2.heap.size w2 w3) (hb : b < w1.heap.size) :
    OwnF w1.heap.size (fun k => k ≠ b) (w3.alloc (.cells #[.slice p3 n1 q3, .slice r3 n2 t3] 25)) v2 said ∧
    FmV (fun k => k ≠ b ∧ some k ≠ v2.ownBlock) (w3.alloc (.cells #[.slice p3 n1 q3, .slice r3 n2 t3] 25)) (.slice p3 n1 q3) (.slice r3 n2 t3) f ∧
    (w3.alloc (.cells #[.slice p3 n1 q3, .slice r3 n2 t3] 25)).cell? ⟨w3.heap.size, 0, none⟩ = some (.slice p3 n1 q3) ∧ (w3.alloc (.cells #[.slice p3 n1 q3, .slice r3 n2 t3] 25)).cell? ⟨w3.heap.size, 1, none⟩ = some (.slice r3 n2 t3) ∧
    w1.heap.size ≤ (w3.alloc (.cells #[.slice p3 n1 q3, .slice r3 n2 t3] 25)).heap.size := by
  have z2 : w1.heap.size ≤ w2.heap.size := hb2.size
  have z3 := hb3.size
  refine ⟨((h2.below hb3).alloc _).weak fun k _ hk => hk.1, (hf.weak fun k _ hk => ⟨by omega, ?_⟩).alloc _, by simp, by simp, by simp; omega⟩
  rcases h2.form with ⟨h, _⟩ | ⟨g', cap', h, _, h', _⟩
  · rw [h]; simp [Value.ownBlock]
  · rw [h]; simp [Value.ownBlock]; omega

theorem atomText_any {P : Nat → Prop} (vs vt : Value) (a : At) (w : World) (hs : Ints P w vs a.s) (ht : Ints P w vt a.t) (hk : Kinds w) (hp : PowTab w) (hc : atomCheck a = 0) :
    Calls Tryz.prog 104 #[.agg #[.int .i64 a.what, vs, vt, .int .i64 a.n]] w fun e w' => e = .returned (.string (atomText a)) ∧ Below w.heap.size w w' := by
  obtain ⟨m, s, t, n⟩ := a
  have hA := atomCheck_ok hc
  obtain ⟨k, rfl⟩ := Int.eq_ofNat_of_zero_le (show 0 ≤ m from by have := hA.w1; simp only at this; omega)
  exact atomText_in vs vt k s t n w hs ht hk hp hA
theorem termText_size {t : List Int} (h : termCheck t = 0) : (termText t).size ≤ 12 := by
  have := (termCheck_ok h).2.1
  simpa [termText, ByteArray.size] using this
theorem atomText_size {a : At} (h : atomCheck a = 0) : (atomText a).size ≤ 1000 := by
  have hA := atomCheck_ok h
  have hs := termText_size hA.s0
  have hi := itoa_size a.n hA.n0 hA.n1
  have hk := kw_size a.what.toNat
  have ht : isT a.what = true → (termText a.t).size ≤ 12 := fun h => termText_size (hA.t0 h)
  unfold atomText wordsOf
  cases hT : isT a.what <;> cases hN : isN a.what <;> simp only [hT, if_true, if_false, List.cons_append, List.nil_append, List.append_nil, List.map_cons, List.map_nil, Bool.false_eq_true]
  all_goals
    show (Lib.join _ _).toArray.size ≤ 1000
    rw [List.size_toArray, Lib.join_length]
    simp only [Lib.lens, List.map_cons, List.map_nil, List.sum_cons, List.sum_nil, List.length_cons, List.length_nil, Array.length_toList]
    simp only [hT, ByteArray.size, forall_const, List.size_toArray] at ht hs hi hk
    omega
theorem line_size (c : UInt8) (tx : ByteArray) : ((⟨#[c]⟩ : ByteArray) ++ (tx ++ ⟨#[10]⟩)).size = tx.size + 2 := by
  rw [ByteArray.size_append, ByteArray.size_append]
  show 1 + (tx.size + 1) = _
  omega
def signL (h : Bool) : ByteArray := if h then ⟨#[43]⟩ else ⟨#[45]⟩
def lineB (a : At) (h : Bool) : ByteArray := signL h ++ (atomText a ++ ⟨#[10]⟩)
/-- the log lies in block b -/
def LogIs (w : World) (b : Nat) (u : Int) (said : List Fm) (y : ByteArray) (s l : Int) (st : Bool) : Prop := ∃ vs, LogAt w b u vs y s l st ∧ Fms (fun k => k ≠ b) w vs said
/-- what becomes of a new formula that may be said -/
def SayNew (b : Nat) (u : Int) (said : List Fm) (y : ByteArray) (s l : Int) (a : At) (hold : Bool) (w : World) (e : Ending) (w' : World) : Prop :=
  if someW (said ++ [aloneF a hold]) u then
    if l = 0 then e = .returned (errV 6) ∧ LogIs w' b u said (y ++ (lineB a hold).extract 0 ((lineB a hold).size / 2)) s (-1) true ∧ w.grownBy w' (some b)
    else e = .returned .nilIface ∧ LogIs w' b u (said ++ [aloneF a hold]) (y ++ lineB a hold) s (max (-1) (l - 1)) false ∧ w.grownBy w' (some b)
  else e = .returned (errV 7) ∧ Below w.heap.size w w'

set_option maxHeartbeats 4000000 in
set_option maxRecDepth 100000 in
theorem say_new {P : Nat → Prop} (b : Nat) (u : Int) (vs : Value) (y : ByteArray) (s l : Int) (said : List Fm) (w : World) (h : LogAt w b u vs y s l false) (hv : Fms (fun k => k ≠ b) w vs said) (hF : ∀ f ∈ said, formCheck f = 0) (hn : said.length < 6) (hu : 0 ≤ u ∧ u ≤ 6)
    (a : At) (va vt : Value) (hs : Ints P w va a.s) (ht : Ints P w vt a.t) (hk : Kinds w) (hold : Bool) (hc : atomCheck a = 0) (hp : PowTab w) (hkb : 0 < b) (hl : -1 ≤ l ∧ l ≤ 1000000000000) (hy : y.size ≤ 1000000000) :
    Calls Tryz.prog 31 #[.pointer (some ⟨b, 0, none⟩), .agg #[.int .i64 a.what, va, vt, .int .i64 a.n], .bool hold] w (SayNew b u said y s l a hold w) := by
  obtain ⟨c0, c1, c2, c3, c4, c5, hf⟩ := h.cells
  have hlt := h.lt
  have HH := Lib.hid h
  have HPT := Lib.hid hp
  have HL := Lib.hid hl
  have HC := Lib.hid (fun o => atomCheck_any va vt a.what a.s a.t a.n (w.alloc o) (hs.alloc o) (ht.alloc o) (hk.keep ((Below.refl _ _).alloc (Nat.le_refl _) _)))
  obtain ⟨sa, sc, rfl⟩ := hs.form
  obtain ⟨ta, tc, rfl⟩ := ht.form
  obtain ⟨ao, cap, rfl⟩ := hv.form
  have HE := Lib.hid (show errV (atomCheck a) = .nilIface by rw [hc]; rfl)
  have HS := Lib.hid hs
  have HT := Lib.hid ht
  have HV := Lib.hid hv
  have HF := Lib.hid hF
  have HK := Lib.hid hk
  have HAC := Lib.hid hc
  have hn' : ¬ (6 : Int) ≤ (said.length : Int) := by omega
  clear hf h c2 c3 c4 hs ht hc hk hv hF hp hl
  go_enter Tryz.func31, Tryz.ntmps31
  go_wp2_with fail
  refine (HC.out _).mono ?_
  rw [HE.out]
  rintro e w1 ⟨rfl, hb1⟩
  have hb1' : Below w.heap.size w w1 := ((Below.refl w.heap.size w).alloc (Nat.le_refl _) _).trans (hb1.mono (by simp))
  have kbox : w1.heap[w.heap.size]? = some (.cells #[.int .i64 a.what, .slice sa a.s.length sc, .slice ta a.t.length tc, .int .i64 a.n] 50 (0, 0)) := (hb1.block w.heap.size (by simp)).trans (blk_new _ _ _ rfl)
  have d0 : w1.cell? ⟨b, 0, none⟩ = some (.int .i64 u) := (hb1'.cell (p := ⟨b, 0, none⟩) hlt).trans c0
  have d1 : w1.cell? ⟨b, 1, none⟩ = some (.slice ao said.length cap) := (hb1'.cell (p := ⟨b, 1, none⟩) hlt).trans c1
  have hz1 : w.heap.size < w1.heap.size := by have := hb1.size; simp at this; omega
  have x0 : w1.cell? ⟨w.heap.size, 0, none⟩ = some (.int .i64 a.what) := cell_blk kbox rfl
  have x1 : w1.cell? ⟨w.heap.size, 1, none⟩ = some (.slice sa a.s.length sc) := cell_blk kbox rfl
  have x2 : w1.cell? ⟨w.heap.size, 2, none⟩ = some (.slice ta a.t.length tc) := cell_blk kbox rfl
  have x3 : w1.cell? ⟨w.heap.size, 3, none⟩ = some (.int .i64 a.n) := cell_blk kbox rfl
  have HB1 := Lib.hid hb1'
  have KBX := Lib.hid kbox
  clear hb1 hb1' kbox HC
  go_wp2_with fail
  have hsm := atomCheck_ok HAC.out
  have hls : a.s.length ≤ 1000 ∧ a.t.length ≤ 1000 := by
    have h1 := (termCheck_ok hsm.s0).2.1
    refine ⟨by omega, ?_⟩
    cases ht : isT a.what with
    | true => have := (termCheck_ok (hsm.t0 ht)).2.1; omega
    | false => rw [hsm.tn ht]; simp
  have HLS := Lib.hid hls
  have CC := Lib.hid (cloneF_any (P := fun k => k ≠ b) (.slice ao said.length cap) said w1.drew (HV.out.below (HB1.out.trans ((Below.refl w1.heap.size w1).drew.mono HB1.out.size))) (by omega))
  have CA := Lib.hid (fun w2 (hb2 : Below w1.heap.size w1.drew w2) => alone_any (P := P) (.slice sa a.s.length sc) (.slice ta a.t.length tc) a hold w2 (HS.out.below ((HB1.out.trans ((Below.refl w1.heap.size w1).drew.mono HB1.out.size)).trans (hb2.mono HB1.out.size))) (HT.out.below ((HB1.out.trans ((Below.refl w1.heap.size w1).drew.mono HB1.out.size)).trans (hb2.mono HB1.out.size))) HLS.out)
  have hbl : b < w1.heap.size := by omega
  clear hsm hls
  have S2f : Hid (∀ w2 : World, Below w1.heap.size w1.drew w2 → w2.cell? ⟨b, 1, none⟩ = some (.slice ao said.length cap) ∧ w2.cell? ⟨w.heap.size, 0, none⟩ = some (.int .i64 a.what) ∧ w2.cell? ⟨w.heap.size, 1, none⟩ = some (.slice sa a.s.length sc) ∧ w2.cell? ⟨w.heap.size, 2, none⟩ = some (.slice ta a.t.length tc) ∧ w2.cell? ⟨w.heap.size, 3, none⟩ = some (.int .i64 a.n)) := Lib.hid fun w2 hb2 => by
    have hc2 : ∀ q i, q < w1.heap.size → w2.cell? ⟨q, i, none⟩ = w1.cell? ⟨q, i, none⟩ := fun q i hq => hb2.cell (p := ⟨q, i, none⟩) hq
    exact ⟨(hc2 _ _ hbl).trans d1, (hc2 _ _ hz1).trans x0, (hc2 _ _ hz1).trans x1, (hc2 _ _ hz1).trans x2, (hc2 _ _ hz1).trans x3⟩
  have S4f : Hid (∀ w4 W3 : World, Below w1.heap.size w1.drew W3 → (∀ q, q < w1.heap.size → w4.heap[q]? = W3.heap[q]?) → w4.cell? ⟨b, 1, none⟩ = some (.slice ao said.length cap) ∧ w4.cell? ⟨w.heap.size, 0, none⟩ = some (.int .i64 a.what) ∧ w4.cell? ⟨w.heap.size, 1, none⟩ = some (.slice sa a.s.length sc) ∧ w4.cell? ⟨w.heap.size, 2, none⟩ = some (.slice ta a.t.length tc) ∧ w4.cell? ⟨w.heap.size, 3, none⟩ = some (.int .i64 a.n)) := Lib.hid fun w4 W3 hb hq => by
    have hc2 : ∀ q i, q < w1.heap.size → w4.cell? ⟨q, i, none⟩ = w1.cell? ⟨q, i, none⟩ := fun q i h => (World.cell?_of_block (a := ⟨q, i, none⟩) (hq q h)).trans (hb.cell (p := ⟨q, i, none⟩) h)
    exact ⟨(hc2 _ _ hbl).trans d1, (hc2 _ _ hz1).trans x0, (hc2 _ _ hz1).trans x1, (hc2 _ _ hz1).trans x2, (hc2 _ _ hz1).trans x3⟩
  have L1 : said.length ≤ 1000000 := by omega
  go_region_held3 (fun w' => w'.cell? ⟨b, 1, none⟩ = some (.slice ao said.length cap) ∧ w'.cell? ⟨w.heap.size, 0, none⟩ = some (.int .i64 a.what) ∧ w'.cell? ⟨w.heap.size, 1, none⟩ = some (.slice sa a.s.length sc) ∧ w'.cell? ⟨w.heap.size, 2, none⟩ = some (.slice ta a.t.length tc) ∧ w'.cell? ⟨w.heap.size, 3, none⟩ = some (.int .i64 a.n))
    (first | (exact S4) | (exact S3) | (exact S2) | go_keep)
    (first
      | (go_at_call 102; (with_reducible refine Calls.mono CC.out ?_); rintro e w2 ⟨v2, rfl, hO2, hb2'⟩; have hb2 : Below w1.heap.size w1.drew w2 := hb2'; have S2 := S2f.out w2 hb2)
      | (go_at_call 103; (with_reducible refine Calls.mono (CA.out w2 hb2) ?_); rintro e w3 ⟨va3, vc3, rfl, hf3, hb3⟩
         obtain ⟨p3, q3, rfl⟩ := hf3.1.form
         obtain ⟨r3, t3, rfl⟩ := hf3.2.form
         have hz2 : w1.heap.size ≤ w2.heap.size := hb2.size
         have hb13 : Below w1.heap.size w1.drew w3 := hb2.trans (hb3.mono hz2)
         have S3 := S2f.out w3 hb13
         have R := say_row hO2 hb2 hf3 hb3 hbl)
      | ((refine step_app_form (by rfl) _ _ (by rfl) w1.heap.size (fun k => k ≠ b) said v2 (by rfl) R.1 w3.heap.size 1 _ _ (aloneF a hold) (by rfl) R.2.2.1 R.2.2.2.1 R.2.1 L1 R.2.2.2.2 ?_); intro g cap4 w4 hO4 hg4 hb4 hgb4 hat4
         have S4 := S4f.out w4 (w3.alloc (.cells #[.slice p3 1 q3, .slice r3 (aloneF a hold).code.length t3] 25)) (hb13.alloc (by have := hb13.size; exact this) _) (fun q hq => R.1.far hgb4 hq R.2.2.2.2)))
  have hbig : Below w1.heap.size w1 (w3.alloc (.cells #[.slice p3 (aloneF a hold).atoms.length q3, .slice r3 (aloneF a hold).code.length t3] 25)) := ((Below.refl w1.heap.size w1).drew.trans hb13).alloc (by have := hb13.size; exact this) _
  have hblk4 : ∀ q, q < w1.heap.size → w4.heap[q]? = w1.heap[q]? := fun q hq => (R.1.far hgb4 hq R.2.2.2.2).trans (hbig.block q hq)
  have hb14 : Below w1.heap.size w1 w4 := hbig.trans hb4
  have HB4 := Lib.hid (HB1.out.trans (hb14.mono HB1.out.size))
  have KL4 : Hid (LogAt w4 b u (.slice ao said.length cap) y s l false) := Lib.hid (HH.out.below HB4.out hlt)
  have KB4 := Lib.hid ((hb14.block w.heap.size hz1).trans KBX.out)
  have hz4 : w1.heap.size ≤ w4.heap.size := hb14.size
  have HO4 := Lib.hid hO4
  obtain ⟨d0', d1', -, -, -, -, -⟩ := KL4.out.cells
  clear hbig hblk4 hb14 hb4 hgb4 hat4 hO4 S4 R S3 hb13 hz2 hf3 hb3 S2 hb2 hb2' hO2 S2f S4f CA CC x0 x1 x2 x3 d0 d1 c0 c1 c5
  go_wp2_with fail
  have hall : ∀ f ∈ said ++ [aloneF a hold], formCheck f = 0 := fun f hf => by
    rcases List.mem_append.1 hf with hf | hf
    · exact HF.out f hf
    · rw [List.mem_singleton.1 hf]; exact aloneF_check HAC.out hold
  have hfm : Fms (fun _ => True) w4 (.slice (some ⟨g, 0, none⟩) (said.length + 1) cap4) (said ++ [aloneF a hold]) := HO4.out.fms (fun _ _ _ => trivial) fun _ _ _ => trivial
  refine (some_any _ (said ++ [aloneF a hold]) u w4 hfm (HK.out.keep HB4.out) hall hu.1 hu.2).mono ?_
  rintro e w5 ⟨rfl, hb5⟩
  have hz5 := hb5.size
  have HB5 := Lib.hid (HB4.out.trans (hb5.mono HB4.out.size))
  have KL5 : Hid (LogAt w5 b u (.slice ao said.length cap) y s l false) := Lib.hid (HH.out.below HB5.out hlt)
  have KB5 := Lib.hid ((hb5.block w.heap.size (by omega)).trans KB4.out)
  have HO5 := Lib.hid (HO4.out.below hb5)
  clear hall hfm hb5 KL4 KB4 d0' d1'
  obtain ⟨bt, hbt⟩ : ∃ bt, someW (said ++ [aloneF a hold]) u = bt := ⟨_, rfl⟩
  rw [hbt]
  have HBT := Lib.hid hbt
  clear hbt
  cases bt
  · go_wp2
    go_ret
    unfold SayNew
    rw [HBT.out]
    exact ⟨rfl, HB5.out⟩
  have x0 : w5.cell? ⟨w.heap.size, 0, none⟩ = some (.int .i64 a.what) := cell_blk KB5.out rfl
  have x1 : w5.cell? ⟨w.heap.size, 1, none⟩ = some (.slice sa a.s.length sc) := cell_blk KB5.out rfl
  have x2 : w5.cell? ⟨w.heap.size, 2, none⟩ = some (.slice ta a.t.length tc) := cell_blk KB5.out rfl
  have x3 : w5.cell? ⟨w.heap.size, 3, none⟩ = some (.int .i64 a.n) := cell_blk KB5.out rfl
  have CT := Lib.hid (atomText_any (P := P) (.slice sa a.s.length sc) (.slice ta a.t.length tc) a w5 (HS.out.below HB5.out) (HT.out.below HB5.out) (HK.out.keep HB5.out) (HPT.out.keep HB5.out) HAC.out)
  obtain ⟨tx, htx⟩ : ∃ tx, atomText a = tx := ⟨_, rfl⟩
  rw [htx] at CT
  have HTX := Lib.hid htx
  have HTS := Lib.hid (show tx.size ≤ 1000 by rw [← htx]; exact atomText_size HAC.out)
  clear htx
  cases hold
  all_goals
    go_wp2_with fail
    refine CT.out.mono ?_
    rintro e w6 ⟨rfl, hb6⟩
    have HB6 := Lib.hid (HB5.out.trans (hb6.mono HB5.out.size))
    have KL6 : Hid (LogAt w6 b u (.slice ao said.length cap) y s l false) := Lib.hid (HH.out.below HB6.out hlt)
    have HO6 := Lib.hid (HO5.out.below hb6)
    have hs6 := HTS.out
    have hz6 := hb6.size
    clear hb6 x0 x1 x2 x3 CT
    go_wp2_with fail
    refine (step_any b u (.slice ao said.length cap) y s l false w6 KL6.out HL.out).mono ?_
    rintro e w7 ⟨rfl, hL7, hg7⟩
    first
      | (obtain ⟨ln, hln⟩ : ∃ ln, (⟨#[45]⟩ : ByteArray) ++ (tx ++ ⟨#[10]⟩) = ln := ⟨_, rfl⟩
         rw [hln]
         have hls : ln.size ≤ 1100 := by rw [← hln, line_size]; omega
         have HLN : Hid (ln = lineB a false) := Lib.hid (by unfold lineB signL; rw [HTX.out, ← hln]; rfl))
      | (obtain ⟨ln, hln⟩ : ∃ ln, (⟨#[43]⟩ : ByteArray) ++ (tx ++ ⟨#[10]⟩) = ln := ⟨_, rfl⟩
         rw [hln]
         have hls : ln.size ≤ 1100 := by rw [← hln, line_size]; omega
         have HLN : Hid (ln = lineB a true) := Lib.hid (by unfold lineB signL; rw [HTX.out, ← hln]; rfl))
    obtain ⟨e0, e1, e2, e3, e4, e5, ef⟩ := hL7.cells
    have ef1 := ef 1
    have ef2 := ef 2
    have KL7 := Lib.hid hL7
    have HG7 := Lib.hid hg7
    clear ef hln hL7 hg7
    by_cases hl0 : l = 0
    · have hb0 : (l == 0) = true := by simp [hl0]
      rw [hb0] at e5 KL7 ⊢
      have HL0 := Lib.hid hl0
      clear hl0 hb0
      have hq0 : (0 : Int) ≤ (ln.size : Int) / 2 := by omega
      have hq1 : (ln.size : Int) / 2 ≤ (ln.size : Int) := by omega
      have hq2 : ln.size / 2 ≤ ln.size := by omega
      go_wp2
      go_region
      all_goals
        go_wp2
        go_ret
        unfold SayNew
        rw [HBT.out, if_pos rfl, if_pos HL0.out]
        have gg := gb_trans (gb_set w7 b 2 (.string (y ++ ln.extract 0 (ln.size / 2)))) (gb_below (row := some b) ((Below.refl _ _).drew))
        have g6 := gb_trans HG7.out gg
        refine ⟨rfl, ⟨.slice ao said.length cap, ?_, ?_⟩, gb_trans (gb_below HB6.out) g6⟩
        · have k7 := KL7.out
          unfold LogAt at k7 ⊢
          have k8 := set_blk (i := 2) k7 (.string (y ++ ln.extract 0 (ln.size / 2)))
          rw [HL0.out] at k8
          rw [← HLN.out]
          exact k8
        · exact (HV.out.below HB6.out).keep g6.size fun k hk hp => g6.block k hk (by simpa using hp)
    · have hb0 : (l == 0) = false := by simpa using hl0
      rw [hb0] at e5 KL7 ⊢
      have HL0 := Lib.hid hl0
      clear hl0 hb0
      go_wp2
      go_ret
      unfold SayNew
      rw [HBT.out, if_pos rfl, if_neg HL0.out]
      have gg := gb_trans (gb_set w7 b 2 (.string (y ++ ln))) (gb_set (w7.setCell ⟨b, 2, none⟩ (.string (y ++ ln))) b 1 (.slice (some ⟨g, 0, none⟩) (said.length + 1) cap4))
      have g6 := gb_trans HG7.out gg
      refine ⟨rfl, ⟨.slice (some ⟨g, 0, none⟩) (said.length + 1) cap4, ?_, ?_⟩, gb_trans (gb_below HB6.out) g6⟩
      · have k7 := KL7.out
        unfold LogAt at k7 ⊢
        rw [set_blk (set_blk k7 _) _, ← HLN.out]; rfl
      · exact (HO6.out.fms (Q := fun k => k ≠ b) (fun k _ hk => by omega) fun k _ hk => hk).keep g6.size fun k hk hp => g6.block k hk (by simpa using hp)
end Go.Proofs.YtpfinfneclmjkaaGreatDoor
