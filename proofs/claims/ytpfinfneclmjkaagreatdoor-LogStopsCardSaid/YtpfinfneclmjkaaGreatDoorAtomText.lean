/- atom.Text. Conditions: the atom is right and lies; the tables of the kinds and of the powers lie as their texts lay them. -/
import Derived.Test.YtpfinfneclmjkaaGreatDoorText
import Derived.Test.YtpfinfneclmjkaaGreatDoorJoin
import Derived.Test.YtpfinfneclmjkaaGreatDoorOwnS
import Derived.Test.YtpfinfneclmjkaaGreatDoorGb
import Derived.Test.YtpfinfneclmjkaaGreatDoorPlain2
import Derived.Test.YtpfinfneclmjkaaGreatDoorAtom
import Derived.Deep.Heap
import Derived.Lib.LaidTab
namespace Go.Proofs.YtpfinfneclmjkaaGreatDoor
open Go.RowKit V

def PowTab (w : World) : Prop := Lib.TabIs Tryz.prog w "internal/strconv.uint64pow10" .u64 Lib.pow10Tab ∧ 5 < w.heap.size
theorem gPow : Tryz.prog.globalNamed "internal/strconv.uint64pow10" = some 5 := by kernel_rfl
theorem PowTab.keep {w w' : World} (h : PowTab w) (hb : Below w.heap.size w w') : PowTab w' :=
  ⟨var?_below hb gPow h.2 h.1, Nat.lt_of_lt_of_le h.2 hb.size⟩
theorem below_grow {B : Nat} {w w' : World} (h : ∃ k os, w' = Go.Sort.grow (w.drewN k) os) (hB : B ≤ w.heap.size) : Below B w w' := by
  obtain ⟨k, os, rfl⟩ := h
  exact ⟨rfl, rfl, rfl, by show w.heap.size ≤ (w.heap ++ os).size; rw [Array.size_append]; omega, fun j hj => by show (w.heap ++ os)[j]? = w.heap[j]?; exact Array.getElem?_append_left (by omega)⟩
theorem itoa_any (n : Int) (h0 : -20 ≤ n) (h1 : n ≤ 20) (w : World) (hp : PowTab w) :
    Calls Tryz.prog 167 #[.int .i64 n] w fun e w' => e = .returned (.string ⟨(Lib.itoa n).toArray⟩) ∧ Below w.heap.size w w' :=
  (Tryz.strconv_Itoa n (by omega) (by omega) w hp.1).mono fun _ _ ⟨he, hw⟩ => ⟨he, below_grow hw (Nat.le_refl _)⟩

def wordsOf (a : At) : List ByteArray := [kw a.what.toNat, termText a.s] ++ ((if isT a.what then [termText a.t] else []) ++ (if isN a.what then [⟨(Lib.itoa a.n).toArray⟩] else []))
def atomText (a : At) : ByteArray := ⟨(Lib.join ((wordsOf a).map (·.data.toList)) [32]).toArray⟩

theorem kw_size (m : Nat) : (kw m).size ≤ 6 := by
  unfold kw
  split <;> simp [ByteArray.size]
theorem join_any (v : Value) (xs : List ByteArray) (sep : ByteArray) (w : World) (B : Nat) (h : OwnS B w v xs) (hn : xs.length ≤ 1000) (hs : ∀ x ∈ xs, x.size ≤ 1000) (hsep : sep.size ≤ 1) :
    Calls Tryz.prog 168 #[v, .string sep] w fun e w' => e = .returned (.string ⟨(Lib.join (xs.map (·.data.toList)) sep.data.toList).toArray⟩) ∧ Below w.heap.size w w' := by
  rcases h.form with ⟨rfl, rfl⟩ | ⟨g, cap, rfl, h1, h2, h3, h4, h5, _⟩
  · refine (join_none none 0 sep w).mono ?_
    rintro e w' ⟨rfl, rfl⟩
    exact ⟨rfl, Below.refl _ _⟩
  · refine join g 0 cap xs sep w (fun j x hx => ?_) h2 (by omega) h3 ?_
    · obtain ⟨hj, rfl⟩ := List.getElem?_eq_some_iff.1 hx
      rw [Nat.zero_add]; exact h5 j hj
    · have key : ∀ l : List ByteArray, (∀ x ∈ l, x.size ≤ 1000) → (Lib.lens (l.map (·.data.toList))) ≤ 1000 * l.length := by
        intro l
        induction l with
        | nil => intro _; simp [Lib.lens]
        | cons x r ih =>
          intro hl
          have := ih fun z hz => hl z (by simp [hz])
          have hx := hl x (by simp)
          simp only [Lib.lens, List.map_cons, List.sum_cons, List.length_cons] at this ⊢
          have e : x.data.toList.length = x.size := by simp
          omega
      cases xs with
      | nil => simp [Lib.join_nil]
      | cons x r =>
        rw [List.map_cons, Lib.join_length]
        have := key (x :: r) hs
        simp only [List.map_cons] at this
        simp only [List.length_cons, List.length_map] at hn this ⊢
        have e : sep.data.toList.length = sep.size := by simp
        have : sep.data.toList.length * r.length ≤ 1 * r.length := Nat.mul_le_mul_right _ (by omega)
        omega

theorem itoa_tab : ∀ k : Fin 41, (Lib.itoa ((k.val : Int) - 20)).length ≤ 100 := by decide +kernel
theorem itoa_size (n : Int) (h0 : -20 ≤ n) (h1 : n ≤ 20) : ByteArray.size ⟨(Lib.itoa n).toArray⟩ ≤ 100 := by
  have := itoa_tab ⟨(n + 20).toNat, by omega⟩
  simp only at this
  rw [show (((n + 20).toNat : Nat) : Int) - 20 = n by omega] at this
  simpa [ByteArray.size] using this
theorem ownS_new2 (B : Nat) (w : World) (x y : ByteArray) (h : B ≤ w.heap.size) : OwnS B (w.alloc (.cells #[.string x, .string y] 9)) (.slice (some ⟨w.heap.size, 0, none⟩) 2 2) [x, y] :=
  ⟨rfl, .inr ⟨w.heap.size, 2, #[.string x, .string y], rfl, h, blk_new _ _ _ rfl, by simp, by unfold maxLen; omega, rfl, rfl⟩⟩

/-- the two boxes of atom.Text -/
def TBox (n0 : Nat) (m : Nat) (vs vt : Value) (n : Int) (bt bn : Bool) (W : World) : Prop :=
  W.heap[n0]? = some (.cells #[.int .i64 (m : Int), vs, vt, .int .i64 n] 50 (0, 0)) ∧ W.heap[n0 + 1]? = some (.cells #[.string (kw m), .bool bt, .bool bn] 189 (0, 0))
theorem TBox.gb {n0 m : Nat} {vs vt : Value} {n : Int} {bt bn : Bool} {W W' : World} (h : TBox n0 m vs vt n bt bn W) (hk : ∀ k, k < n0 + 2 → W'.heap[k]? = W.heap[k]?) : TBox n0 m vs vt n bt bn W' :=
  ⟨(hk n0 (by omega)).trans h.1, (hk (n0 + 1) (by omega)).trans h.2⟩
theorem TBox.cells {n0 m : Nat} {vs vt : Value} {n : Int} {bt bn : Bool} {W : World} (h : TBox n0 m vs vt n bt bn W) :
    W.cell? ⟨n0, 1, none⟩ = some vs ∧ W.cell? ⟨n0, 2, none⟩ = some vt ∧ W.cell? ⟨n0, 3, none⟩ = some (.int .i64 n) ∧ W.cell? ⟨n0 + 1, 0, none⟩ = some (.string (kw m)) ∧ W.cell? ⟨n0 + 1, 1, none⟩ = some (.bool bt) ∧ W.cell? ⟨n0 + 1, 2, none⟩ = some (.bool bn) :=
  ⟨cell_blk h.1 rfl, cell_blk h.1 rfl, cell_blk h.1 rfl, cell_blk h.2 rfl, cell_blk h.2 rfl, cell_blk h.2 rfl⟩

set_option maxHeartbeats 2000000 in
set_option maxRecDepth 100000 in
theorem atomText_in {P : Nat → Prop} (vs vt : Value) (m : Nat) (s t : List Int) (n : Int) (w : World) (hs : Ints P w vs s) (ht : Ints P w vt t) (hk : Kinds w) (hp : PowTab w) (hA : AtOk ⟨m, s, t, n⟩) :
    Calls Tryz.prog 104 #[.agg #[.int .i64 (m : Int), vs, vt, .int .i64 n]] w fun e w' => e = .returned (.string (atomText ⟨m, s, t, n⟩)) ∧ Below w.heap.size w w' := by
  obtain ⟨sa, sc, rfl⟩ := hs.form
  obtain ⟨ta, tc, rfl⟩ := ht.form
  have hg := hk.size
  have hm0 : (1 : Int) ≤ (m : Int) := hA.w1
  have hm5 : (m : Int) ≤ 5 := hA.w5
  obtain ⟨k0, k1, k2⟩ := hk m (by omega)
  have HM := Lib.hid (isT_kt (m := m) (by omega))
  have HS := Lib.hid hs
  have HT := Lib.hid ht
  have HP := Lib.hid hp
  have HA := Lib.hid hA
  clear hs ht hp hA hk
  generalize hkt : kt m = bt at k1
  generalize hkn : kn m = bn at k2
  have HKT := Lib.hid hkt
  have HKN := Lib.hid hkn
  clear hkt hkn
  go_enter Tryz.func104, Tryz.ntmps104
  go_wp2_with fail
  obtain ⟨W0, hW0⟩ : ∃ W0, (w.alloc (.cells #[.int .i64 (m : Int), .slice sa s.length sc, .slice ta t.length tc, .int .i64 n] 50)).alloc (.cells #[.string (kw m), .bool bt, .bool bn] 189) = W0 := ⟨_, rfl⟩
  have hz : W0.heap.size = w.heap.size + 2 := by rw [← hW0]; simp
  have hb0 : Below w.heap.size w W0 := by rw [← hW0]; exact ((Below.refl _ _).alloc (Nat.le_refl _) _).alloc (by simp) _
  have hbx : TBox w.heap.size m (.slice sa s.length sc) (.slice ta t.length tc) n bt bn W0 :=
    ⟨by rw [← hW0, blk_old _ _ _ (by simp)]; exact blk_new _ _ _ rfl, by rw [← hW0]; exact blk_new _ _ _ (by simp)⟩
  rw [hW0]
  clear hW0 k0 k1 k2
  obtain ⟨x1, x2, x3, x4, x5, x6⟩ := hbx.cells
  have hs1 := (termCheck_ok HA.out.s0)
  have HC := Lib.hid (fun q => termText_any (P := P) (.slice sa s.length sc) s (W0.drewN q) ((HS.out.below hb0).below (below_drewN (Below.refl _ _) q)) hs1.2.2.1 (by have : s.length ≤ 12 := hs1.2.1; omega))
  have HB0 := Lib.hid hb0
  have HX := Lib.hid hbx
  clear hb0 hbx hs1
  go_region_held3 (fun w' => w'.cell? ⟨w.heap.size + 1, 0, none⟩ = some (.string (kw m)) ∧ w'.cell? ⟨w.heap.size, 1, none⟩ = some (.slice sa s.length sc)) (first | (exact ⟨y4, y1⟩) | go_keep) ((go_at_call 166; refine Calls.mono (HC.out 1) ?_; rintro e w1 ⟨rfl, hb1⟩; have y4 := (hb1.cell (p := ⟨w.heap.size + 1, 0, none⟩) (by show w.heap.size + 1 < W0.heap.size; omega)).trans x4; have y1 := (hb1.cell (p := ⟨w.heap.size, 1, none⟩) (by show w.heap.size < W0.heap.size; omega)).trans x1))
  all_goals
    have l1 : W0.heap.size ≤ w1.heap.size := hb1.size
    have hbw : Below w.heap.size w w1 := HB0.out.trans ((below_drewN (Below.refl W0.heap.size W0) 1).trans hb1 |>.mono (by omega))
    have hX1 : TBox w.heap.size m (.slice sa s.length sc) (.slice ta t.length tc) n bt bn (w1.alloc (.cells #[.string (kw m), .string (termText s)] 9)) :=
      HX.out.gb fun k hk => by rw [blk_old _ _ _ (by omega)]; exact hb1.block k (by show k < W0.heap.size; omega)
    have hO1 := ownS_new2 w.heap.size w1 (kw m) (termText s) hbw.size
    have HBW := Lib.hid (hbw.alloc hbw.size (.cells #[.string (kw m), .string (termText s)] 9))
    obtain ⟨W1, hW1⟩ : ∃ W1, w1.alloc (.cells #[.string (kw m), .string (termText s)] 9) = W1 := ⟨_, rfl⟩
    have hz1 : W1.heap.size = w1.heap.size + 1 := by rw [← hW1]; simp
    rw [hW1] at hX1 hO1 HBW ⊢
    clear hW1 hb1 hbw y1 y4 x1 x2 x3 x4 x5 x6 HC HX
    have HL := Lib.hid (show (termText s).size ≤ 12 ∧ (termText t).size ≤ 12 by
      have hs1 : s.length ≤ 12 := (termCheck_ok HA.out.s0).2.1
      have ht1 : t.length ≤ 12 := by
        cases hT : isT m with
        | true => exact (termCheck_ok (HA.out.t0 hT)).2.1
        | false => have : t = [] := HA.out.tn hT; rw [this]; simp
      simp [termText, ByteArray.size]; omega)
    have HL2 := Lib.hid (show ByteArray.size ⟨(Lib.itoa n).toArray⟩ ≤ 100 from itoa_size n HA.out.n0 HA.out.n1)
    cases bt
    · obtain ⟨x1, x2, x3, x4, x5, x6⟩ := hX1.cells
      have HX := Lib.hid hX1
      have HO := Lib.hid hO1
      clear hX1 hO1
      cases bn
      · have tok := trivial
        have hsz : ∀ x ∈ [kw m, termText s], x.size ≤ 1000 := by
          have a1 := kw_size m
          have a2 := HL.out.1
          have a3 := HL.out.2
          have a4 := HL2.out
          intro x hx
          simp only [List.mem_cons, List.not_mem_nil, or_false] at hx
          rcases hx with rfl | rfl <;> omega
        have HJ := Lib.hid (join_any _ [kw m, termText s] ⟨#[32]⟩ W1 w.heap.size HO.out (by simp) hsz (by decide))
        clear hsz
        go_wp2_with fail
        refine HJ.out.mono ?_
        rintro e w9 ⟨rfl, hb9⟩
        have HB9 := Lib.hid (HBW.out.trans (hb9.mono HBW.out.size))
        have HE := Lib.hid (show wordsOf ⟨m, s, t, n⟩ = [kw m, termText s] by
          simp only [wordsOf, HM.out.1, HM.out.2, HKT.out, HKN.out, Int.toNat_natCast]; rfl)
        clear hb9
        go_wp2
        go_ret
        exact ⟨by unfold atomText; rw [HE.out]; rfl, HB9.out⟩
      · have HC := Lib.hid (itoa_any n HA.out.n0 HA.out.n1 W1 (HP.out.keep HBW.out))
        go_wp2_with fail
        refine HC.out.mono ?_
        rintro e w5 ⟨rfl, hb5⟩
        have l5 := hb5.size
        have HO5 := Lib.hid (HO.out.below hb5)
        have HB5 := Lib.hid (HBW.out.trans (hb5.mono HBW.out.size))
        clear hb5 x1 x2 x3 x4 x5 x6 HC
        go_wp2_with (at_builtin; refine app_str rfl _ _ rfl w.heap.size [kw m, termText s] _ rfl (HO5.out.alloc _) ⟨w5.heap.size, 0, none⟩ 1 ⟨(Lib.itoa n).toArray⟩ rfl ?d1 ?d2 ?d3 ?_)
        case d1 => simp
        case d2 => simp
        case d3 => have := HB5.out.size; simp; omega
        intro g6 cap6 w6 hO6 hg6 hb6 hs6 hblk6
        have HB6 := Lib.hid ((HB5.out.alloc HB5.out.size _).trans hb6)
        have HO6 := Lib.hid hO6
        clear hO6 hb6 hblk6
        have hsz : ∀ x ∈ [kw m, termText s, ⟨(Lib.itoa n).toArray⟩], x.size ≤ 1000 := by
          have a1 := kw_size m
          have a2 := HL.out.1
          have a3 := HL.out.2
          have a4 := HL2.out
          intro x hx
          simp only [List.mem_cons, List.not_mem_nil, or_false] at hx
          rcases hx with rfl | rfl | rfl <;> omega
        have HJ := Lib.hid (join_any _ [kw m, termText s, ⟨(Lib.itoa n).toArray⟩] ⟨#[32]⟩ w6 w.heap.size HO6.out (by simp) hsz (by decide))
        clear hsz
        go_wp2_with fail
        refine HJ.out.mono ?_
        rintro e w9 ⟨rfl, hb9⟩
        have HB9 := Lib.hid (HB6.out.trans (hb9.mono HB6.out.size))
        have HE := Lib.hid (show wordsOf ⟨m, s, t, n⟩ = [kw m, termText s, ⟨(Lib.itoa n).toArray⟩] by
          simp only [wordsOf, HM.out.1, HM.out.2, HKT.out, HKN.out, Int.toNat_natCast]; rfl)
        clear hb9
        go_wp2
        go_ret
        exact ⟨by unfold atomText; rw [HE.out]; rfl, HB9.out⟩
    · obtain ⟨x1, x2, x3, x4, x5, x6⟩ := hX1.cells
      have hT1 := termCheck_ok (HA.out.t0 (HM.out.1.trans HKT.out))
      have HC := Lib.hid (termText_any (P := P) (.slice ta t.length tc) t W1 (HT.out.below HBW.out) hT1.2.2.1 (by have : t.length ≤ 12 := hT1.2.1; omega))
      have HX := Lib.hid hX1
      have HO := Lib.hid hO1
      clear hX1 hT1 hO1
      go_wp2_with fail
      refine HC.out.mono ?_
      rintro e w2 ⟨rfl, hb2⟩
      have l2 := hb2.size
      have HO2 := Lib.hid (HO.out.below hb2)
      have HB2 := Lib.hid (HBW.out.trans (hb2.mono HBW.out.size))
      have HX2 := Lib.hid (HX.out.gb fun k hk => hb2.block k (by omega))
      clear hb2 x1 x2 x3 x4 x5 x6 HX HO HC
      go_wp2_with (at_builtin; refine app_str rfl _ _ rfl w.heap.size [kw m, termText s] _ rfl (HO2.out.alloc _) ⟨w2.heap.size, 0, none⟩ 1 (termText t) rfl ?c1 ?c2 ?c3 ?_)
      case c1 => simp
      case c2 => simp
      case c3 => have := HB2.out.size; simp; omega
      intro g cap w3 hO hg3 hb3 hs3 hblk
      have hX3 := HX2.out.gb (W' := w3) fun k hk => by rw [hblk k (by omega) (by simp [Value.ownBlock]; omega), blk_old _ _ _ (by omega)]
      have HB3 := Lib.hid ((HB2.out.alloc HB2.out.size _).trans hb3)
      have HO3 := Lib.hid hO
      obtain ⟨x1, x2, x3, x4, x5, x6⟩ := hX3.cells
      have HX3 := Lib.hid hX3
      clear hO hb3 hblk hX3
      cases bn
      · have tok := trivial
        have hsz : ∀ x ∈ [kw m, termText s, termText t], x.size ≤ 1000 := by
          have a1 := kw_size m
          have a2 := HL.out.1
          have a3 := HL.out.2
          have a4 := HL2.out
          intro x hx
          simp only [List.mem_cons, List.not_mem_nil, or_false] at hx
          rcases hx with rfl | rfl | rfl <;> omega
        have HJ := Lib.hid (join_any _ [kw m, termText s, termText t] ⟨#[32]⟩ w3 w.heap.size HO3.out (by simp) hsz (by decide))
        clear hsz
        go_wp2_with fail
        refine HJ.out.mono ?_
        rintro e w9 ⟨rfl, hb9⟩
        have HB9 := Lib.hid (HB3.out.trans (hb9.mono HB3.out.size))
        have HE := Lib.hid (show wordsOf ⟨m, s, t, n⟩ = [kw m, termText s, termText t] by
          simp only [wordsOf, HM.out.1, HM.out.2, HKT.out, HKN.out, Int.toNat_natCast]; rfl)
        clear hb9
        go_wp2
        go_ret
        exact ⟨by unfold atomText; rw [HE.out]; rfl, HB9.out⟩
      · have HC := Lib.hid (itoa_any n HA.out.n0 HA.out.n1 w3 (HP.out.keep HB3.out))
        go_wp2_with fail
        refine HC.out.mono ?_
        rintro e w5 ⟨rfl, hb5⟩
        have l5 := hb5.size
        have HO5 := Lib.hid (HO3.out.below hb5)
        have HB5 := Lib.hid (HB3.out.trans (hb5.mono HB3.out.size))
        clear hb5 x1 x2 x3 x4 x5 x6 HC
        go_wp2_with (at_builtin; refine app_str rfl _ _ rfl w.heap.size [kw m, termText s, termText t] _ rfl (HO5.out.alloc _) ⟨w5.heap.size, 0, none⟩ 1 ⟨(Lib.itoa n).toArray⟩ rfl ?d1 ?d2 ?d3 ?_)
        case d1 => simp
        case d2 => simp
        case d3 => have := HB5.out.size; simp; omega
        intro g6 cap6 w6 hO6 hg6 hb6 hs6 hblk6
        have HB6 := Lib.hid ((HB5.out.alloc HB5.out.size _).trans hb6)
        have HO6 := Lib.hid hO6
        clear hO6 hb6 hblk6
        have hsz : ∀ x ∈ [kw m, termText s, termText t, ⟨(Lib.itoa n).toArray⟩], x.size ≤ 1000 := by
          have a1 := kw_size m
          have a2 := HL.out.1
          have a3 := HL.out.2
          have a4 := HL2.out
          intro x hx
          simp only [List.mem_cons, List.not_mem_nil, or_false] at hx
          rcases hx with rfl | rfl | rfl | rfl <;> omega
        have HJ := Lib.hid (join_any _ [kw m, termText s, termText t, ⟨(Lib.itoa n).toArray⟩] ⟨#[32]⟩ w6 w.heap.size HO6.out (by simp) hsz (by decide))
        clear hsz
        go_wp2_with fail
        refine HJ.out.mono ?_
        rintro e w9 ⟨rfl, hb9⟩
        have HB9 := Lib.hid (HB6.out.trans (hb9.mono HB6.out.size))
        have HE := Lib.hid (show wordsOf ⟨m, s, t, n⟩ = [kw m, termText s, termText t, ⟨(Lib.itoa n).toArray⟩] by
          simp only [wordsOf, HM.out.1, HM.out.2, HKT.out, HKN.out, Int.toNat_natCast]; rfl)
        clear hb9
        go_wp2
        go_ret
        exact ⟨by unfold atomText; rw [HE.out]; rfl, HB9.out⟩
end Go.Proofs.YtpfinfneclmjkaaGreatDoor
