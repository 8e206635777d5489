/- slices.Clone at the element types of this program, by the kit's generic law. Condition: the slices lie; no more than a million elements. -/
import Derived.Test.YtpfinfneclmjkaaGreatDoorForms
import Derived.Test.YtpfinfneclmjkaaGreatDoorOwn
import Derived.Test.YtpfinfneclmjkaaGreatDoorShelf
import Derived.Shelf.SlicesE.Clone
import Derived.Ground.SlgnProg
namespace Go.Proofs.YtpfinfneclmjkaaGreatDoor
open Go.RowKit V
open Go.Proofs
open Go.Shelf

theorem info_atom : (Tryz.prog.info? 50).map (fun i => (i.zero, i.size, i.bytes)) = some (some (.agg #[.int .i64 0, .slice none 0 0, .slice none 0 0, .int .i64 0]), 4, 64) := by kernel_rfl
theorem info_form : (Tryz.prog.info? 25).map (fun i => (i.zero, i.size, i.bytes)) = some (some (.agg #[.slice none 0 0, .slice none 0 0]), 2, 48) := by kernel_rfl

theorem cloneI_raw (b off n c : Nat) (news : List Value) (w : World) (hl : news.length = n * 1) (hn : n ≤ 1000000)
    (hc : ∀ j u, news[j]? = some u → w.cell? ⟨b, off + j, none⟩ = some u) (h1 : ∀ u ∈ news, u.oneCell' = true) :
    Calls Tryz.prog 132 #[.slice (some ⟨b, off, none⟩) n c] w fun e w' => ∃ v', e = .returned v' ∧ w'.ownsRow w.heap.size 3 1 v' n news ∧ v' ≠ .slice none 0 0 ∧ Below w.heap.size w w' := by
  have h := info_int
  cases hi : Tryz.prog.info? 3 with
  | none => simp [hi] at h
  | some i0 =>
    simp [hi] at h
    exact AnyE.slices_Clone Tryz.layClI i0 _ 1 8 hi h.1 h.2.1 h.2.2 rfl (by decide) (fun _ => by kernel_rfl) b off n c news w hl (by unfold maxLen; omega) (by omega) hc h1
theorem cloneA_raw (b off n c : Nat) (news : List Value) (w : World) (hl : news.length = n * 4) (hn : n ≤ 1000000)
    (hc : ∀ j u, news[j]? = some u → w.cell? ⟨b, off + j, none⟩ = some u) (h1 : ∀ u ∈ news, u.oneCell' = true) :
    Calls Tryz.prog 174 #[.slice (some ⟨b, off, none⟩) n c] w fun e w' => ∃ v', e = .returned v' ∧ w'.ownsRow w.heap.size 50 4 v' n news ∧ v' ≠ .slice none 0 0 ∧ Below w.heap.size w w' := by
  have h := info_atom
  cases hi : Tryz.prog.info? 50 with
  | none => simp [hi] at h
  | some i0 =>
    simp [hi] at h
    exact AnyE.slices_Clone Tryz.layClA i0 _ 4 64 hi h.1 h.2.1 h.2.2 rfl (by decide) (fun _ => by kernel_rfl) b off n c news w hl (by unfold maxLen; omega) (by omega) hc h1
theorem cloneF_raw (b off n c : Nat) (news : List Value) (w : World) (hl : news.length = n * 2) (hn : n ≤ 1000000)
    (hc : ∀ j u, news[j]? = some u → w.cell? ⟨b, off + j, none⟩ = some u) (h1 : ∀ u ∈ news, u.oneCell' = true) :
    Calls Tryz.prog 102 #[.slice (some ⟨b, off, none⟩) n c] w fun e w' => ∃ v', e = .returned v' ∧ w'.ownsRow w.heap.size 25 2 v' n news ∧ v' ≠ .slice none 0 0 ∧ Below w.heap.size w w' := by
  have h := info_form
  cases hi : Tryz.prog.info? 25 with
  | none => simp [hi] at h
  | some i0 =>
    simp [hi] at h
    exact AnyE.slices_Clone Tryz.layClF i0 _ 2 48 hi h.1 h.2.1 h.2.2 rfl (by decide) (fun _ => by kernel_rfl) b off n c news w hl (by unfold maxLen; omega) (by omega) hc h1

theorem cloneI_zero (ad : Addr) (c : Nat) (w : World) :
    Calls Tryz.prog 132 #[.slice (some ad) 0 c] w fun e w' => ∃ v', e = .returned v' ∧ w'.ownsRow w.heap.size 3 1 v' 0 [] ∧ Below w.heap.size w w' := by
  obtain ⟨i0, hi, hz0, hz1, hz2⟩ := info_parts info_int
  have q22 : ∀ (w : World) (a : Option Addr) (n c n' c' : Nat), (binOp .eql 23 (.slice a n c) (.slice none n' c')).run Tryz.prog w = .ok (.bool a.isNone) w := fun w a n c n' c' => Lib.run_eql_slice_nil w _ _ a n c n' c' Tryz.underlying23
  go_enter Tryz.func132, Tryz.ntmps132
  go_wp2_with (at_builtin; refine wpList_append_own _ rfl _ _ 23 rfl w.heap.size 3 i0 (.int .i64 0) 1 8 Tryz.underlying23 hi hz0 hz1 hz2 rfl (by decide) _ _ _ rfl (World.ownsRow_made w #[] 0 (Nat.le_refl _) (Nat.zero_le _) (by simp)) ad 0 c [] rfl ?qc1 ?qc2 ?qc3 ?qc4 ?qc5 ?qc6 ?_)
  case qc1 => rfl
  case qc2 => intro j u hj; simp at hj
  case qc3 => intro u hu; simp at hu
  case qc4 => unfold maxLen; omega
  case qc5 => omega
  case qc6 => simp
  intro v' w1 hown hgrow hnil
  go_wp2
  go_ret
  exact ⟨v', rfl, by simpa using hown, ((Below.refl _ w).alloc (Nat.le_refl _) _).grown hgrow (by simp) (by intro k hk; simp [Value.ownBlock] at hk; omega)⟩
theorem cloneA_zero (ad : Addr) (c : Nat) (w : World) :
    Calls Tryz.prog 174 #[.slice (some ad) 0 c] w fun e w' => ∃ v', e = .returned v' ∧ w'.ownsRow w.heap.size 50 4 v' 0 [] ∧ Below w.heap.size w w' := by
  obtain ⟨i0, hi, hz0, hz1, hz2⟩ := info_parts info_atom
  have q22 : ∀ (w : World) (a : Option Addr) (n c n' c' : Nat), (binOp .eql 22 (.slice a n c) (.slice none n' c')).run Tryz.prog w = .ok (.bool a.isNone) w := fun w a n c n' c' => Lib.run_eql_slice_nil w _ _ a n c n' c' Tryz.underlying22
  go_enter Tryz.func174, Tryz.ntmps174
  go_wp2_with (at_builtin; refine wpList_append_own _ rfl _ _ 22 rfl w.heap.size 50 i0 (.agg #[.int .i64 0, .slice none 0 0, .slice none 0 0, .int .i64 0]) 4 64 Tryz.underlying22 hi hz0 hz1 hz2 rfl (by decide) _ _ _ rfl (World.ownsRow_made w #[] 0 (Nat.le_refl _) (Nat.zero_le _) (by simp)) ad 0 c [] rfl ?qc1 ?qc2 ?qc3 ?qc4 ?qc5 ?qc6 ?_)
  case qc1 => rfl
  case qc2 => intro j u hj; simp at hj
  case qc3 => intro u hu; simp at hu
  case qc4 => unfold maxLen; omega
  case qc5 => omega
  case qc6 => simp
  intro v' w1 hown hgrow hnil
  go_wp2
  go_ret
  exact ⟨v', rfl, by simpa using hown, ((Below.refl _ w).alloc (Nat.le_refl _) _).grown hgrow (by simp) (by intro k hk; simp [Value.ownBlock] at hk; omega)⟩

/-- what a row of the call's own is, cell by cell -/
theorem row_form {w : World} {base : Nat} {e : TypeId} {size : Nat} {v : Value} {n : Nat} {xs : List Value} (h : w.ownsRow base e size v n xs) (hv : v ≠ .slice none 0 0) :
    ∃ g cap, v = .slice (some ⟨g, 0, none⟩) n cap ∧ base ≤ g ∧ g < w.heap.size ∧ n ≤ cap ∧ cap ≤ maxLen ∧ (∀ i, w.frozen? ⟨g, i, none⟩ = false) ∧ ∀ j (hj : j < xs.length), w.cell? ⟨g, j, none⟩ = some xs[j] := by
  obtain ⟨h1, h2⟩ := h
  rcases h2 with ⟨h0, hn⟩ | ⟨g, cap, cur, rfl, hB, hg, hl, hm, hs, ht⟩
  · exact absurd h0 hv
  · refine ⟨g, cap, rfl, hB, (Array.getElem?_eq_some_iff.1 hg).1, hl, hm, fun i => by simp [World.frozen?, hg], fun j hj => ?_⟩
    have e : (cur.toList.take (n * size))[j]? = some xs[j] := by rw [ht]; simp [hj]
    rw [List.getElem?_take, if_pos (by omega)] at e
    simp [World.cell?, hg]
    simpa using e

/-- the cells from ⟨b, off⟩ on, m of them, are there, each one cell's -/
def Cells1 (w : World) (b off m : Nat) : Prop := ∀ j, j < m → ∃ u, w.cell? ⟨b, off + j, none⟩ = some u ∧ u.oneCell' = true
theorem Cells1.news {w : World} {b off m : Nat} (h : Cells1 w b off m) : ∃ news : List Value, news.length = m ∧ (∀ j u, news[j]? = some u → w.cell? ⟨b, off + j, none⟩ = some u) ∧ (∀ u ∈ news, u.oneCell' = true) := by
  induction m with
  | zero => exact ⟨[], rfl, fun j u hu => by simp at hu, fun u hu => by simp at hu⟩
  | succ m ih =>
    obtain ⟨news, h1, h2, h3⟩ := ih (fun j hj => h j (by omega))
    obtain ⟨u, hu, hu1⟩ := h m (by omega)
    refine ⟨news ++ [u], by simp [h1], fun j x hx => ?_, fun x hx => ?_⟩
    · by_cases hj : j < m
      · rw [List.getElem?_append_left (by omega)] at hx; exact h2 j x hx
      · rw [List.getElem?_append_right (by omega)] at hx
        by_cases hj' : j = m
        · subst hj'; simp [h1] at hx; subst hx; exact hu
        · rw [List.getElem?_eq_none (by simp; omega)] at hx; cases hx
    · rcases List.mem_append.1 hx with hx | hx
      · exact h3 x hx
      · rw [List.mem_singleton.1 hx]; exact hu1

/-- what a clone is: a new row of so many cells each, that hold what the old ones do -/
def CloneOf (size : Nat) (T : TypeId) (w : World) (b off n : Nat) (e : Ending) (w' : World) : Prop :=
  ∃ g cap, e = .returned (.slice (some ⟨g, 0, none⟩) n cap) ∧ w.heap.size ≤ g ∧ g < w'.heap.size ∧ n ≤ cap ∧ cap ≤ maxLen ∧ (∀ i, w'.frozen? ⟨g, i, none⟩ = false) ∧
    (∀ j, j < n * size → w'.cell? ⟨g, j, none⟩ = w.cell? ⟨b, off + j, none⟩) ∧ (∃ xs, w'.ownsRow w.heap.size T size (.slice (some ⟨g, 0, none⟩) n cap) n xs) ∧ Below w.heap.size w w'

theorem cloneA_of (b off n c : Nat) (w : World) (hn : n ≤ 1000000) (h : Cells1 w b off (n * 4)) :
    Calls Tryz.prog 174 #[.slice (some ⟨b, off, none⟩) n c] w (CloneOf 4 50 w b off n) := by
  obtain ⟨news, h1, h2, h3⟩ := h.news
  refine (cloneA_raw b off n c news w h1 hn h2 h3).mono ?_
  rintro e w' ⟨v', rfl, ho, hv, hb⟩
  obtain ⟨g, cap, rfl, q1, q2, q3, q4, q5, q6⟩ := row_form ho hv
  exact ⟨g, cap, rfl, q1, q2, q3, q4, q5, fun j hj => by rw [q6 j (by omega), h2 j news[j] (by simp)], ⟨_, ho⟩, hb⟩
theorem cloneF_of (b off n c : Nat) (w : World) (hn : n ≤ 1000000) (h : Cells1 w b off (n * 2)) :
    Calls Tryz.prog 102 #[.slice (some ⟨b, off, none⟩) n c] w (CloneOf 2 25 w b off n) := by
  obtain ⟨news, h1, h2, h3⟩ := h.news
  refine (cloneF_raw b off n c news w h1 hn h2 h3).mono ?_
  rintro e w' ⟨v', rfl, ho, hv, hb⟩
  obtain ⟨g, cap, rfl, q1, q2, q3, q4, q5, q6⟩ := row_form ho hv
  exact ⟨g, cap, rfl, q1, q2, q3, q4, q5, fun j hj => by rw [q6 j (by omega), h2 j news[j] (by simp)], ⟨_, ho⟩, hb⟩

theorem Ints.one {P : Nat → Prop} {w : World} {v : Value} {l : List Int} (h : Ints P w v l) : v.oneCell' = true := by
  obtain ⟨ao, cap, rfl⟩ := h.form
  rfl
theorem Ats.one {P : Nat → Prop} {w : World} {v : Value} {l : List At} (h : Ats P w v l) : v.oneCell' = true := by
  obtain ⟨ao, cap, rfl⟩ := h.form
  rfl

/-- a row of atoms in a block g from B on; what its terms are in lies in blocks of P -/
def OwnA (B : Nat) (P : Nat → Prop) (w : World) (v : Value) (l : List At) : Prop :=
  (v = .slice none 0 0 ∧ l = []) ∨
  ∃ g cap, v = .slice (some ⟨g, 0, none⟩) l.length cap ∧ l.length ≤ cap ∧ cap ≤ maxLen ∧ B ≤ g ∧ g < w.heap.size ∧ (∀ i, w.frozen? ⟨g, i, none⟩ = false) ∧ ∀ i (h : i < l.length), AtAt P w g (i * 4) l[i]

theorem cloneA_any {P : Nat → Prop} (v : Value) (l : List At) (w : World) (h : Ats P w v l) (hl : l.length ≤ 1000000) :
    Calls Tryz.prog 174 #[v] w fun e w' => ∃ ao cap, e = .returned (.slice ao l.length cap) ∧ OwnA w.heap.size P w' (.slice ao l.length cap) l ∧ Below w.heap.size w w' := by
  rcases h with ⟨ao, rfl, rfl⟩ | ⟨b, off, cap, rfl, h2, h3, h4, h5, h6⟩
  · cases ao with
    | none =>
      refine (AnyE.slices_Clone_nil Tryz.layClA 0 0 w).mono ?_
      rintro e w' ⟨rfl, rfl⟩
      exact ⟨none, 0, rfl, .inl ⟨rfl, rfl⟩, Below.refl _ _⟩
    | some ad =>
      refine (cloneA_zero ad 0 w).mono ?_
      rintro e w' ⟨v', rfl, ho, hb⟩
      rcases ho.2 with ⟨rfl, _⟩ | ⟨g, cap, cur, rfl, hB, hg, hl, hm, hs, _⟩
      · exact ⟨none, 0, rfl, .inl ⟨rfl, rfl⟩, hb⟩
      · exact ⟨_, cap, rfl, .inr ⟨g, cap, rfl, hl, hm, hB, (Array.getElem?_eq_some_iff.1 hg).1, fun i => by simp [World.frozen?, hg], fun i hi => by simp at hi⟩, hb⟩
  · refine (cloneA_of b off l.length cap w hl ?_).mono ?_
    · intro j hj
      obtain ⟨i, r, hr, rfl⟩ : ∃ i r, r < 4 ∧ j = i * 4 + r := ⟨j / 4, j % 4, Nat.mod_lt _ (by omega), by omega⟩
      obtain ⟨vs, vt, c0, c1, c2, c3, c4, c5⟩ := h6 i (by omega)
      rw [← Nat.add_assoc]
      match r, hr with
      | 0, _ => exact ⟨_, c0, rfl⟩
      | 1, _ => exact ⟨_, c1, c2.one⟩
      | 2, _ => exact ⟨_, c3, c4.one⟩
      | 3, _ => exact ⟨_, c5, rfl⟩
    · rintro e w' ⟨g, cap', rfl, q1, q2, q3, q4, q5, q6, _, hb⟩
      refine ⟨_, cap', rfl, .inr ⟨g, cap', rfl, q3, q4, q1, q2, q5, fun i hi => ?_⟩, hb⟩
      obtain ⟨vs, vt, c0, c1, c2, c3, c4, c5⟩ := h6 i hi
      exact ⟨vs, vt, (q6 (i * 4) (by omega)).trans c0, (q6 (i * 4 + 1) (by omega)).trans c1, c2.below hb, (q6 (i * 4 + 2) (by omega)).trans c3, c4.below hb, (q6 (i * 4 + 3) (by omega)).trans c5⟩

/-- a []int -/
theorem cloneI_any {P : Nat → Prop} (v : Value) (l : List Int) (w : World) (h : Ints P w v l) (hl : l.length ≤ 1000000) :
    Calls Tryz.prog 132 #[v] w fun e w' => ∃ ao cap, e = .returned (.slice ao l.length cap) ∧ OwnI w.heap.size w' (.slice ao l.length cap) l ∧ Below w.heap.size w w' := by
  rcases h with ⟨ao, rfl, rfl⟩ | ⟨b, off, cap, rfl, h2, h3, h4, h5, h6⟩
  · cases ao with
    | none =>
      refine (AnyE.slices_Clone_nil Tryz.layClI 0 0 w).mono ?_
      rintro e w' ⟨rfl, rfl⟩
      exact ⟨none, 0, rfl, ownI_nil _ _, Below.refl _ _⟩
    | some ad =>
      refine (cloneI_zero ad 0 w).mono ?_
      rintro e w' ⟨v', rfl, ho, hb⟩
      rcases ho.2 with ⟨rfl, _⟩ | ⟨g, cap, cur, rfl, hB, hg, hl, hm, hs, _⟩
      · exact ⟨none, 0, rfl, ownI_nil _ _, hb⟩
      · exact ⟨_, cap, rfl, ho, hb⟩
  · refine (cloneI_raw b off l.length cap (l.map (Value.int .i64)) w (by simp) hl ?_ ?_).mono ?_
    · intro j u hu
      rw [List.getElem?_map] at hu
      cases hj : l[j]? with
      | none => simp [hj] at hu
      | some x =>
        simp [hj] at hu
        subst hu
        obtain ⟨hlt, rfl⟩ := List.getElem?_eq_some_iff.1 hj
        exact h6 j hlt
    · intro u hu
      obtain ⟨x, _, rfl⟩ := List.mem_map.1 hu
      rfl
    · rintro e w' ⟨v', rfl, ho, hv, hb⟩
      obtain ⟨g, cap', rfl, _⟩ := row_form ho hv
      exact ⟨_, cap', rfl, ho, hb⟩
end Go.Proofs.YtpfinfneclmjkaaGreatDoor
