/- Rows of formulas that a call makes itself: append of one. No condition. -/
import Derived.Test.YtpfinfneclmjkaaGreatDoorOwnA
import Derived.Deep.AppendLies
namespace Go.Proofs.YtpfinfneclmjkaaGreatDoor
open Go.RowKit V

theorem FmV.gb {P Q : Nat → Prop} {w w' : World} {va vc : Value} {f : Fm} {row : Option Nat} (h : FmV P w va vc f) (hg : w.grownBy w' row) (hP : ∀ k, k < w.heap.size → P k → some k ≠ row) (hQ : ∀ k, k < w.heap.size → P k → Q k) : FmV Q w' va vc f := by
  obtain ⟨h1, h2⟩ := h
  have h1' := h1.weak (Q := fun k => k < w.heap.size ∧ P k) fun k hk hp => ⟨hk, hp⟩
  have h2' := h2.weak (Q := fun k => k < w.heap.size ∧ P k) fun k hk hp => ⟨hk, hp⟩
  exact ⟨(h1'.keep hg.size fun k hk hp => hg.block k hk (hP k hk hp.2)).weak fun k _ hp => hQ k hp.1 hp.2, (h2'.keep hg.size fun k hk hp => hg.block k hk (hP k hk hp.2)).weak fun k _ hp => hQ k hp.1 hp.2⟩
theorem FmV.one {P : Nat → Prop} {w : World} {va vc : Value} {f : Fm} (h : FmV P w va vc f) : va.oneCell' = true ∧ vc.oneCell' = true := ⟨h.1.one, h.2.one⟩

/-- v is a row of the call's own (blocks from B on) that holds the formulas l; what they are in lies in blocks of P, beside the row's own -/
def OwnF (B : Nat) (P : Nat → Prop) (w : World) (v : Value) (l : List Fm) : Prop :=
  ∃ xs : List Value, w.ownsRow B 25 2 v l.length xs ∧ xs.length = l.length * 2 ∧ ∀ i (_ : i < l.length), ∃ va vc, xs[i * 2]? = some va ∧ xs[i * 2 + 1]? = some vc ∧ FmV (fun k => P k ∧ some k ≠ v.ownBlock) w va vc l[i]
theorem ownF_nil (B : Nat) (P : Nat → Prop) (w : World) : OwnF B P w (.slice none 0 0) [] := ⟨[], World.ownsRow_nil _ _ _ _, rfl, fun i h => by simp at h⟩
theorem OwnF.alloc {B : Nat} {P : Nat → Prop} {w : World} {v : Value} {l : List Fm} (h : OwnF B P w v l) (o : Obj) : OwnF B P (w.alloc o) v l := by
  obtain ⟨xs, h1, h2, h3⟩ := h
  refine ⟨xs, World.ownsRow.alloc h1 o, h2, fun i hi => ?_⟩
  obtain ⟨va, vc, e1, e2, e3⟩ := h3 i hi
  exact ⟨va, vc, e1, e2, e3.alloc o⟩
theorem OwnF.drew {B : Nat} {P : Nat → Prop} {w : World} {v : Value} {l : List Fm} (h : OwnF B P w v l) : OwnF B P w.drew v l := h
theorem OwnF.gb {B : Nat} {P : Nat → Prop} {w w' : World} {v : Value} {l : List Fm} {row : Option Nat} (h : OwnF B P w v l) (hg : w.grownBy w' row) (hr : v.ownBlock = none ∨ v.ownBlock ≠ row) (hP : ∀ k, k < w.heap.size → P k → some k ≠ row) : OwnF B P w' v l := by
  obtain ⟨xs, h1, h2, h3⟩ := h
  refine ⟨xs, World.ownsRow.kept h1 hg hr, h2, fun i hi => ?_⟩
  obtain ⟨va, vc, e1, e2, e3⟩ := h3 i hi
  exact ⟨va, vc, e1, e2, e3.gb hg (fun k hk hp => hP k hk hp.1) fun k _ hp => hp⟩
theorem OwnF.below {B : Nat} {P : Nat → Prop} {w w' : World} {v : Value} {l : List Fm} (h : OwnF B P w v l) (hb : Below w.heap.size w w') : OwnF B P w' v l :=
  h.gb (row := none) (gb_below hb) (by cases v.ownBlock <;> simp) (by simp)
theorem OwnF.weak {B : Nat} {P Q : Nat → Prop} {w : World} {v : Value} {l : List Fm} (h : OwnF B P w v l) (hq : ∀ k, k < w.heap.size → P k → Q k) : OwnF B Q w v l := by
  obtain ⟨xs, h1, h2, h3⟩ := h
  refine ⟨xs, h1, h2, fun i hi => ?_⟩
  obtain ⟨va, vc, e1, e2, e3⟩ := h3 i hi
  exact ⟨va, vc, e1, e2, e3.weak fun k hk hp => ⟨hq k hk hp.1, hp.2⟩⟩
theorem OwnF.fms {B : Nat} {P Q : Nat → Prop} {w : World} {v : Value} {l : List Fm} (h : OwnF B P w v l) (h1 : ∀ k, k < w.heap.size → B ≤ k → Q k) (h2 : ∀ k, k < w.heap.size → P k → Q k) : Fms Q w v l := by
  obtain ⟨xs, ho, hx, hf⟩ := h
  rcases l with _ | ⟨f, r⟩
  · rcases ho.2 with ⟨hv, _⟩ | ⟨g, cap, cur, hv, hB, hg, hl, hm, _⟩
    · exact .inl ⟨hv, rfl⟩
    · exact .inr ⟨g, 0, cap, hv, hl, hm, h1 g (Array.getElem?_eq_some_iff.1 hg).1 hB, (Array.getElem?_eq_some_iff.1 hg).1, fun i hi => by simp at hi⟩
  · obtain ⟨g, cap, hv, hB, hg, hl, hm, _, hc⟩ := row_form ho (by rcases ho.2 with ⟨_, h0⟩ | ⟨g, cap, cur, hv, _⟩ <;> simp_all)
    refine .inr ⟨g, 0, cap, hv, hl, hm, h1 g hg hB, hg, fun i hi => ?_⟩
    obtain ⟨va, vc, e1, e2, e3⟩ := hf i hi
    refine ⟨va, vc, ?_, ?_, e3.weak fun k hk hp => h2 k hk hp.1⟩
    · have := hc (i * 2) (by omega)
      rw [List.getElem?_eq_getElem (by omega)] at e1
      rw [Nat.zero_add, this]; exact e1
    · have := hc (i * 2 + 1) (by omega)
      rw [List.getElem?_eq_getElem (by omega)] at e2
      rw [Nat.zero_add, this]; exact e2
theorem OwnF.form {B : Nat} {P : Nat → Prop} {w : World} {v : Value} {l : List Fm} (h : OwnF B P w v l) : (v = .slice none 0 0 ∧ l = []) ∨ ∃ g cap, v = .slice (some ⟨g, 0, none⟩) l.length cap ∧ B ≤ g ∧ g < w.heap.size ∧ l.length ≤ cap ∧ cap ≤ maxLen := by
  obtain ⟨xs, ho, _⟩ := h
  rcases ho.2 with ⟨hv, h0⟩ | ⟨g, cap, cur, hv, hB, hg, hl, hm, _⟩
  · exact .inl ⟨hv, List.eq_nil_of_length_eq_zero h0⟩
  · exact .inr ⟨g, cap, hv, hB, (Array.getElem?_eq_some_iff.1 hg).1, hl, hm⟩

/-- append of one, for an operation that stands anywhere -/
theorem wp_app_form {o : Oper} {a : Act} {K : Act → World → Prop} {Q : Exit → Act → World → Prop} {w : World} (s x : Operand)
    (ho : o.op = .call { callee := .builtin .append, args := #[s, x], argTypes := #[41, 41] })
    (B : Nat) (P : Nat → Prop) (l : List Fm) (v : Value) (hs : a.eval s = v) (hown : OwnF B P w v l)
    (b : Nat) (c : Nat) (va vc : Value) (f : Fm) (hx : a.eval x = .slice (some ⟨b, 0, none⟩) 1 c) (hc0 : w.cell? ⟨b, 0, none⟩ = some va) (hc1 : w.cell? ⟨b, 1, none⟩ = some vc)
    (hf : FmV (fun k => P k ∧ some k ≠ v.ownBlock) w va vc f)
    (hlen : l.length ≤ 1000000) (hbase : B ≤ w.heap.size)
    (h : ∀ g cap w', OwnF B P w' (.slice (some ⟨g, 0, none⟩) (l.length + 1) cap) (l ++ [f]) → B ≤ g → Below B w w' → w.grownBy w' v.ownBlock → (v.ownBlock = some g ∨ g = w.heap.size) →
      K (a.put o.dst (.slice (some ⟨g, 0, none⟩) (l.length + 1) cap)) w') : o.wp Tryz.prog a w K Q := by
  obtain ⟨i0, hi, hz0, hz1, hz2⟩ := info_parts info_form
  obtain ⟨xs, h1, h2, h3⟩ := hown
  refine wp_append_lies w s x 41 ho B 25 i0 (.agg #[.slice none 0 0, .slice none 0 0]) 2 48 Tryz.underlying41 hi hz0 hz1 hz2 rfl (by decide) v l.length xs hs h1 ⟨b, 0, none⟩ 1 c [va, vc] hx rfl ?_ ?_ (by decide) (by unfold maxLen; omega) (by omega) hbase w.heap.size rfl ?_
  · intro j u hu
    match j, hu with
    | 0, hu => simp at hu; subst hu; simpa [Addr.add] using hc0
    | 1, hu => simp at hu; subst hu; simpa [Addr.add] using hc1
  · intro u hu
    simp at hu
    rcases hu with rfl | rfl
    · exact hf.one.1
    · exact hf.one.2
  · intro g cap w' hown' hg hat hlt
    have hb : Below B w w' := (Below.refl B w).grown hg hbase (fun k hk => (World.ownsRow.lt h1 k hk).1)
    have hBg : B ≤ g := by
      rcases hat with e | e
      · exact (World.ownsRow.lt h1 g e).1
      · omega
    refine h g cap w' ⟨xs ++ [va, vc], by simpa using hown', by simp [h2]; omega, fun i hi => ?_⟩ hBg hb hg hat
    have key : ∀ {va vc f}, FmV (fun k => P k ∧ some k ≠ v.ownBlock) w va vc f → FmV (fun k => P k ∧ some k ≠ (Value.slice (some ⟨g, 0, none⟩) (l.length + 1) cap).ownBlock) w' va vc f := by
      intro va vc f hf
      refine hf.gb hg (fun k hk hp => hp.2) fun k hk hp => ⟨hp.1, ?_⟩
      rcases hat with e | e
      · have := hp.2; rw [e] at this; simpa [Value.ownBlock] using this
      · simp [Value.ownBlock]; omega
    by_cases hil : i < l.length
    · obtain ⟨ya, yc, e1, e2, e3⟩ := h3 i hil
      refine ⟨ya, yc, by rw [List.getElem?_append_left (by omega)]; exact e1, by rw [List.getElem?_append_left (by omega)]; exact e2, ?_⟩
      rw [List.getElem_append_left hil]
      exact key e3
    · obtain rfl : i = l.length := by simp at hi; omega
      refine ⟨va, vc, by rw [List.getElem?_append_right (by omega), h2]; simp, by rw [List.getElem?_append_right (by omega), h2]; simp, ?_⟩
      rw [List.getElem_append_right (by omega)]
      simpa using key hf
theorem step_app_form {ops : Array Oper} {o : Oper} {a : Act} {K : Act → World → Prop} {Q : Exit → Act → World → Prop} {E : Prop} {w : World} (hgd : o.guard = none) (s x : Operand)
    (ho : o.op = .call { callee := .builtin .append, args := #[s, x], argTypes := #[41, 41] })
    (B : Nat) (P : Nat → Prop) (l : List Fm) (v : Value) (hs : a.eval s = v) (hown : OwnF B P w v l)
    (b : Nat) (c : Nat) (va vc : Value) (f : Fm) (hx : a.eval x = .slice (some ⟨b, 0, none⟩) 1 c) (hc0 : w.cell? ⟨b, 0, none⟩ = some va) (hc1 : w.cell? ⟨b, 1, none⟩ = some vc)
    (hf : FmV (fun k => P k ∧ some k ≠ v.ownBlock) w va vc f)
    (hlen : l.length ≤ 1000000) (hbase : B ≤ w.heap.size)
    (h : ∀ g cap w', OwnF B P w' (.slice (some ⟨g, 0, none⟩) (l.length + 1) cap) (l ++ [f]) → B ≤ g → Below B w w' → w.grownBy w' v.ownBlock → (v.ownBlock = some g ∨ g = w.heap.size) →
      K (a.put o.dst (.slice (some ⟨g, 0, none⟩) (l.length + 1) cap)) w') : if Region.wanted o (yielded ops a.tmps) = true then o.wp Tryz.prog a w K Q else E := by
  have hw : Region.wanted o (yielded ops a.tmps) = true := by simp [Region.wanted, hgd]
  rw [if_pos hw]
  exact wp_app_form s x ho B P l v hs hown b c va vc f hx hc0 hc1 hf hlen hbase h
theorem app_form {ops : Array Oper} {rest : List Oper} {o : Oper} {a : Act} {Q : Exit → Act → World → Prop} {w : World} (hgd : o.guard = none) (s x : Operand)
    (ho : o.op = .call { callee := .builtin .append, args := #[s, x], argTypes := #[41, 41] })
    (B : Nat) (P : Nat → Prop) (l : List Fm) (v : Value) (hs : a.eval s = v) (hown : OwnF B P w v l)
    (b : Nat) (c : Nat) (va vc : Value) (f : Fm) (hx : a.eval x = .slice (some ⟨b, 0, none⟩) 1 c) (hc0 : w.cell? ⟨b, 0, none⟩ = some va) (hc1 : w.cell? ⟨b, 1, none⟩ = some vc)
    (hf : FmV (fun k => P k ∧ some k ≠ v.ownBlock) w va vc f)
    (hlen : l.length ≤ 1000000) (hbase : B ≤ w.heap.size)
    (h : ∀ g cap w', OwnF B P w' (.slice (some ⟨g, 0, none⟩) (l.length + 1) cap) (l ++ [f]) → B ≤ g → Below B w w' → w.grownBy w' v.ownBlock → (v.ownBlock = some g ∨ g = w.heap.size) →
      wpList Tryz.prog ops Q rest (a.put o.dst (.slice (some ⟨g, 0, none⟩) (l.length + 1) cap)) w') : wpList Tryz.prog ops Q (o :: rest) a w :=
  wpList_plain hgd fun _ hK => wp_app_form s x ho B P l v hs hown b c va vc f hx hc0 hc1 hf hlen hbase fun g cap w' h1 h2 h3 h4 h5 => hK _ _ (h g cap w' h1 h2 h3 h4 h5)

/-- a clone of formulas is a row of the call's own -/
theorem cloneF_any {P : Nat → Prop} (v : Value) (l : List Fm) (w : World) (h : Fms P w v l) (hl : l.length ≤ 1000000) :
    Calls Tryz.prog 102 #[v] w fun e w' => ∃ v', e = .returned v' ∧ OwnF w.heap.size (fun k => P k ∧ k < w.heap.size) w' v' l ∧ Below w.heap.size w w' := by
  rcases h with ⟨rfl, rfl⟩ | ⟨b, off, cap, rfl, h2, h3, h4, h5, h6⟩
  · refine (AnyE.slices_Clone_nil Tryz.layClF 0 0 w).mono ?_
    rintro e w' ⟨rfl, rfl⟩
    exact ⟨_, rfl, ownF_nil _ _ _, Below.refl _ _⟩
  · have hcell : ∀ j, j < l.length * 2 → ∃ u, w.cell? ⟨b, off + j, none⟩ = some u ∧ u.oneCell' = true := by
      intro j hj
      obtain ⟨i, r, hr, rfl⟩ : ∃ i r, r < 2 ∧ j = i * 2 + r := ⟨j / 2, j % 2, Nat.mod_lt _ (by omega), by omega⟩
      obtain ⟨va, vc, c0, c1, c2⟩ := h6 i (by omega)
      rw [← Nat.add_assoc]
      match r, hr with
      | 0, _ => exact ⟨_, c0, c2.one.1⟩
      | 1, _ => exact ⟨_, c1, c2.one.2⟩
    obtain ⟨news, n1, n2, n3⟩ := Cells1.news hcell
    refine (cloneF_raw b off l.length cap news w n1 hl n2 n3).mono ?_
    rintro e w' ⟨v', rfl, ho, hv, hb⟩
    refine ⟨v', rfl, ⟨news, ho, n1, fun i hi => ?_⟩, hb⟩
    obtain ⟨va, vc, c0, c1, c2⟩ := h6 i hi
    have e0 := n2 (i * 2) news[i * 2] (by simp)
    have e1 := n2 (i * 2 + 1) news[i * 2 + 1] (by simp)
    rw [← Nat.add_assoc] at e1
    rw [c0] at e0
    rw [c1] at e1
    refine ⟨va, vc, by rw [List.getElem?_eq_getElem (by omega)]; exact e0.symm, by rw [List.getElem?_eq_getElem (by omega)]; exact e1.symm, ?_⟩
    refine c2.gb (row := none) (gb_below hb) (by simp) fun k hk hp => ⟨⟨hp, hk⟩, ?_⟩
    intro e
    have := (World.ownsRow.lt ho k e.symm).1
    omega
end Go.Proofs.YtpfinfneclmjkaaGreatDoor
