/- Rows of ints that a call makes itself: append of one. No condition. -/
import Derived.Test.YtpfinfneclmjkaaGreatDoorBase
namespace Go.Proofs.YtpfinfneclmjkaaGreatDoor
open Go.RowKit V

theorem info_int : (Tryz.prog.info? 3).map (fun i => (i.zero, i.size, i.bytes)) = some (some (.int .i64 0), 1, 8) := by kernel_rfl

/-- v is a row of the call's own (blocks from B on) that holds l -/
def OwnI (B : Nat) (w : World) (v : Value) (l : List Int) : Prop := w.ownsRow B 3 1 v l.length (l.map (Value.int .i64))

theorem ownI_nil (B : Nat) (w : World) : OwnI B w (.slice none 0 0) [] := World.ownsRow_nil _ _ _ _
theorem OwnI.alloc {B : Nat} {w : World} {v : Value} {l : List Int} (h : OwnI B w v l) (o : Obj) : OwnI B (w.alloc o) v l := World.ownsRow.alloc h o
theorem OwnI.drew {B : Nat} {w : World} {v : Value} {l : List Int} (h : OwnI B w v l) : OwnI B w.drew v l := h
theorem OwnI.below {B : Nat} {w w' : World} {v : Value} {l : List Int} (h : OwnI B w v l) (hb : Below w.heap.size w w') : OwnI B w' v l :=
  World.ownsRow.kept (row := none) h ⟨hb.os, hb.tape, hb.output, hb.size, fun k hk _ => hb.block k hk⟩ (by cases v.ownBlock <;> simp)
theorem OwnI.form {B : Nat} {w : World} {v : Value} {l : List Int} (h : OwnI B w v l) : (v = .slice none 0 0 ∧ l = []) ∨ ∃ g cap, v = .slice (some ⟨g, 0, none⟩) l.length cap ∧ B ≤ g ∧ g < w.heap.size ∧ l.length ≤ cap ∧ cap ≤ maxLen ∧
    (∀ i (hi : i < l.length), w.cell? ⟨g, i, none⟩ = some (.int .i64 l[i])) ∧ (∀ i, w.frozen? ⟨g, i, none⟩ = false) := by
  obtain ⟨h1, h2⟩ := h
  rcases h2 with ⟨rfl, hn⟩ | ⟨g, cap, cur, rfl, hB, hg, hl, hm, hs, ht⟩
  · exact .inl ⟨rfl, List.eq_nil_of_length_eq_zero hn⟩
  · refine .inr ⟨g, cap, rfl, hB, (Array.getElem?_eq_some_iff.1 hg).1, hl, hm, fun i hi => ?_, fun i => ?_⟩
    · have hlt : i < cur.toList.length := by simp; omega
      have e : (cur.toList.take (l.length * 1))[i]? = some (Value.int .i64 l[i]) := by rw [ht]; simp [hi]
      rw [List.getElem?_take] at e
      rw [if_pos (by omega)] at e
      simp [World.cell?, hg]
      simpa using e
    · simp [World.frozen?, hg]
theorem OwnI.ints {B : Nat} {w : World} {v : Value} {l : List Int} (h : OwnI B w v l) : Ints (fun k => B ≤ k) w v l := by
  rcases h.form with h | ⟨g, cap, rfl, hB, hg, hl, hm, hc, _⟩
  · exact .inl ⟨none, h.1, h.2⟩
  · exact .inr ⟨g, 0, cap, rfl, hl, hm, hB, hg, fun i hi => by simpa using hc i hi⟩

theorem OwnI.pop {B : Nat} {w : World} {g n cap m : Nat} {l : List Int} (h : OwnI B w (.slice (some ⟨g, 0, none⟩) n cap) l) (hm : m ≤ l.length) : OwnI B w (.slice (some ⟨g, 0, none⟩) m cap) (l.take m) := by
  obtain ⟨h1, h2⟩ := h
  rcases h2 with ⟨h0, _⟩ | ⟨g', cap', cur, hv, hB, hg, hl, hx, hs, ht⟩
  · cases h0
  · cases hv
    refine ⟨by simp, .inr ⟨g, cap, cur, by simp [Nat.min_eq_left hm], hB, hg, by simp; omega, hx, hs, ?_⟩⟩
    have : cur.toList.take ((l.take m).length * 1) = (cur.toList.take (l.length * 1)).take m := by simp [List.take_take]
    rw [this, ht]; simp [List.map_take]
theorem OwnI.set {B : Nat} {w : World} {g n cap i : Nat} {l : List Int} (h : OwnI B w (.slice (some ⟨g, 0, none⟩) n cap) l) (hi : i < l.length) (y : Int) : OwnI B (w.setCell ⟨g, i, none⟩ (.int .i64 y)) (.slice (some ⟨g, 0, none⟩) n cap) (l.set i y) := by
  obtain ⟨h1, h2⟩ := h
  rcases h2 with ⟨h0, _⟩ | ⟨g', cap', cur, hv, hB, hg, hl, hx, hs, ht⟩
  · cases h0
  · cases hv
    refine ⟨by simp, .inr ⟨g, cap, cur.setIfInBounds i (.int .i64 y), by simp, hB, ?_, by simp; omega, hx, by simpa using hs, ?_⟩⟩
    · simp [World.setCell, Array.getElem?_modify, hg]
    · simp only [List.length_set, Array.toList_setIfInBounds, List.take_set, ht, List.map_set]
theorem OwnI.getset {B : Nat} {w : World} {g n cap : Nat} {l : List Int} (h : OwnI B w (.slice (some ⟨g, 0, none⟩) n cap) l) : n = l.length := by
  rcases h.form with ⟨h0, _⟩ | ⟨g', cap', hv, _⟩
  · cases h0
  · cases hv; rfl

/-- append of one, for an operation that stands anywhere -/
theorem wp_app_int {o : Oper} {a : Act} {K : Act → World → Prop} {Q : Exit → Act → World → Prop} {w : World} (s x : Operand)
    (ho : o.op = .call { callee := .builtin .append, args := #[s, x], argTypes := #[23, 23] })
    (B : Nat) (l : List Int) (v : Value) (hs : a.eval s = v) (hown : OwnI B w v l)
    (ad : Addr) (c : Nat) (y : Int) (hx : a.eval x = .slice (some ad) 1 c) (hc : w.cell? ad = some (.int .i64 y))
    (hlen : l.length ≤ 1000000) (hbase : B ≤ w.heap.size)
    (h : ∀ g cap w', OwnI B w' (.slice (some ⟨g, 0, none⟩) (l.length + 1) cap) (l ++ [y]) → B ≤ g → Below B w w' → w.heap.size ≤ w'.heap.size → (∀ k, k < w.heap.size → some k ≠ v.ownBlock → w'.heap[k]? = w.heap[k]?) →
      K (a.put o.dst (.slice (some ⟨g, 0, none⟩) (l.length + 1) cap)) w') : o.wp Tryz.prog a w K Q := by
  obtain ⟨i0, hi, hz0, hz1, hz2⟩ := info_parts info_int
  refine wp_append_own w s x 23 ho B 3 i0 (.int .i64 0) 1 8 Tryz.underlying23 hi hz0 hz1 hz2 rfl (by decide) v l.length _ hs hown ad 1 c [.int .i64 y] hx rfl ?_ ?_ (by unfold maxLen; omega) (by omega) hbase ?_
  · intro j u hu
    match j, hu with
    | 0, hu => simp at hu; subst hu; simpa [Addr.add] using hc
  · intro u hu; simp at hu; subst hu; rfl
  · intro v' w' hown' hg _
    have hO : OwnI B w' v' (l ++ [y]) := by simpa [OwnI] using hown'
    rcases hO.form with ⟨_, h0⟩ | ⟨g, cap, rfl, hB, _⟩
    · simp at h0
    · have hb : Below B w w' := (Below.refl B w).grown hg hbase (fun k hk => (World.ownsRow.lt hown k hk).1)
      have := h g cap w' (by simpa using hO) hB hb hg.size hg.block
      simpa using this
/-- .. as a step of a region that draws its order -/
theorem step_app_int {ops : Array Oper} {o : Oper} {a : Act} {K : Act → World → Prop} {Q : Exit → Act → World → Prop} {E : Prop} {w : World} (hgd : o.guard = none) (s x : Operand)
    (ho : o.op = .call { callee := .builtin .append, args := #[s, x], argTypes := #[23, 23] })
    (B : Nat) (l : List Int) (v : Value) (hs : a.eval s = v) (hown : OwnI B w v l)
    (ad : Addr) (c : Nat) (y : Int) (hx : a.eval x = .slice (some ad) 1 c) (hc : w.cell? ad = some (.int .i64 y))
    (hlen : l.length ≤ 1000000) (hbase : B ≤ w.heap.size)
    (h : ∀ g cap w', OwnI B w' (.slice (some ⟨g, 0, none⟩) (l.length + 1) cap) (l ++ [y]) → B ≤ g → Below B w w' → w.heap.size ≤ w'.heap.size → (∀ k, k < w.heap.size → some k ≠ v.ownBlock → w'.heap[k]? = w.heap[k]?) →
      K (a.put o.dst (.slice (some ⟨g, 0, none⟩) (l.length + 1) cap)) w') : if Region.wanted o (yielded ops a.tmps) = true then o.wp Tryz.prog a w K Q else E := by
  have hw : Region.wanted o (yielded ops a.tmps) = true := by simp [Region.wanted, hgd]
  rw [if_pos hw]
  exact wp_app_int s x ho B l v hs hown ad c y hx hc hlen hbase h

theorem app_int {ops : Array Oper} {rest : List Oper} {o : Oper} {a : Act} {Q : Exit → Act → World → Prop} {w : World} (hgd : o.guard = none) (s x : Operand)
    (ho : o.op = .call { callee := .builtin .append, args := #[s, x], argTypes := #[23, 23] })
    (B : Nat) (l : List Int) (v : Value) (hs : a.eval s = v) (hown : OwnI B w v l)
    (ad : Addr) (c : Nat) (y : Int) (hx : a.eval x = .slice (some ad) 1 c) (hc : w.cell? ad = some (.int .i64 y))
    (hlen : l.length ≤ 1000000) (hbase : B ≤ w.heap.size)
    (h : ∀ g cap w', OwnI B w' (.slice (some ⟨g, 0, none⟩) (l.length + 1) cap) (l ++ [y]) → B ≤ g → Below B w w' → w.heap.size ≤ w'.heap.size → (∀ k, k < w.heap.size → some k ≠ v.ownBlock → w'.heap[k]? = w.heap[k]?) →
      wpList Tryz.prog ops Q rest (a.put o.dst (.slice (some ⟨g, 0, none⟩) (l.length + 1) cap)) w') : wpList Tryz.prog ops Q (o :: rest) a w := by
  obtain ⟨i0, hi, hz0, hz1, hz2⟩ := info_parts info_int
  refine wpList_append_own w hgd s x 23 ho B 3 i0 (.int .i64 0) 1 8 Tryz.underlying23 hi hz0 hz1 hz2 rfl (by decide) v l.length _ hs hown ad 1 c [.int .i64 y] hx rfl ?_ ?_ (by unfold maxLen; omega) (by omega) hbase ?_
  · intro j u hu
    match j, hu with
    | 0, hu => simp at hu; subst hu; simpa [Addr.add] using hc
  · intro u hu; simp at hu; subst hu; rfl
  · intro v' w' hown' hg _
    have hO : OwnI B w' v' (l ++ [y]) := by simpa [OwnI] using hown'
    rcases hO.form with ⟨_, h0⟩ | ⟨g, cap, rfl, hB, _⟩
    · simp at h0
    · have hb : Below B w w' := (Below.refl B w).grown hg hbase (fun k hk => (World.ownsRow.lt hown k hk).1)
      have := h g cap w' (by simpa using hO) hB hb hg.size hg.block
      simpa using this
end Go.Proofs.YtpfinfneclmjkaaGreatDoor
