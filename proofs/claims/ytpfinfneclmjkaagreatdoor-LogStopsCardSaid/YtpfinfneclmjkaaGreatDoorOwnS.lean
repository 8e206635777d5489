/- Rows of strings that a call makes itself: append of one. No condition. -/
import Derived.Test.YtpfinfneclmjkaaGreatDoorBase
namespace Go.Proofs.YtpfinfneclmjkaaGreatDoor
open Go.RowKit V

theorem info_string : (Tryz.prog.info? 9).map (fun i => (i.zero, i.size, i.bytes)) = some (some (.string .empty), 1, 16) := by kernel_rfl

/-- v is a row of the call's own (blocks from B on) that holds l -/
def OwnS (B : Nat) (w : World) (v : Value) (l : List ByteArray) : Prop := w.ownsRow B 9 1 v l.length (l.map Value.string)

theorem ownS_nil (B : Nat) (w : World) : OwnS B w (.slice none 0 0) [] := World.ownsRow_nil _ _ _ _
theorem OwnS.alloc {B : Nat} {w : World} {v : Value} {l : List ByteArray} (h : OwnS B w v l) (o : Obj) : OwnS B (w.alloc o) v l := World.ownsRow.alloc h o
theorem OwnS.drew {B : Nat} {w : World} {v : Value} {l : List ByteArray} (h : OwnS B w v l) : OwnS B w.drew v l := h
theorem OwnS.below {B : Nat} {w w' : World} {v : Value} {l : List ByteArray} (h : OwnS B w v l) (hb : Below w.heap.size w w') : OwnS B w' v l :=
  World.ownsRow.kept (row := none) h ⟨hb.os, hb.tape, hb.output, hb.size, fun k hk _ => hb.block k hk⟩ (by cases v.ownBlock <;> simp)
theorem OwnS.form {B : Nat} {w : World} {v : Value} {l : List ByteArray} (h : OwnS B w v l) : (v = .slice none 0 0 ∧ l = []) ∨ ∃ g cap, v = .slice (some ⟨g, 0, none⟩) l.length cap ∧ B ≤ g ∧ g < w.heap.size ∧ l.length ≤ cap ∧ cap ≤ maxLen ∧
    (∀ i (hi : i < l.length), w.cell? ⟨g, i, none⟩ = some (.string l[i])) ∧ (∀ i, w.frozen? ⟨g, i, none⟩ = false) := by
  obtain ⟨h1, h2⟩ := h
  rcases h2 with ⟨rfl, hn⟩ | ⟨g, cap, cur, rfl, hB, hg, hl, hm, hs, ht⟩
  · exact .inl ⟨rfl, List.eq_nil_of_length_eq_zero hn⟩
  · refine .inr ⟨g, cap, rfl, hB, (Array.getElem?_eq_some_iff.1 hg).1, hl, hm, fun i hi => ?_, fun i => ?_⟩
    · have hlt : i < cur.toList.length := by simp; omega
      have e : (cur.toList.take (l.length * 1))[i]? = some (Value.string l[i]) := by rw [ht]; simp [hi]
      rw [List.getElem?_take] at e
      rw [if_pos (by omega)] at e
      simp [World.cell?, hg]
      simpa using e
    · simp [World.frozen?, hg]

/-- append of one, for an operation that stands anywhere -/
theorem wp_app_str {o : Oper} {a : Act} {K : Act → World → Prop} {Q : Exit → Act → World → Prop} {w : World} (s x : Operand)
    (ho : o.op = .call { callee := .builtin .append, args := #[s, x], argTypes := #[121, 121] })
    (B : Nat) (l : List ByteArray) (v : Value) (hs : a.eval s = v) (hown : OwnS B w v l)
    (ad : Addr) (c : Nat) (y : ByteArray) (hx : a.eval x = .slice (some ad) 1 c) (hc : w.cell? ad = some (.string y))
    (hlen : l.length ≤ 1000000) (hbase : B ≤ w.heap.size)
    (h : ∀ g cap w', OwnS B w' (.slice (some ⟨g, 0, none⟩) (l.length + 1) cap) (l ++ [y]) → B ≤ g → Below B w w' → w.heap.size ≤ w'.heap.size → (∀ k, k < w.heap.size → some k ≠ v.ownBlock → w'.heap[k]? = w.heap[k]?) →
      K (a.put o.dst (.slice (some ⟨g, 0, none⟩) (l.length + 1) cap)) w') : o.wp Tryz.prog a w K Q := by
  obtain ⟨i0, hi, hz0, hz1, hz2⟩ := info_parts info_string
  refine wp_append_own w s x 121 ho B 9 i0 (.string .empty) 1 16 Tryz.underlying121 hi hz0 hz1 hz2 rfl (by decide) v l.length _ hs hown ad 1 c [.string y] hx rfl ?_ ?_ (by unfold maxLen; omega) (by omega) hbase ?_
  · intro j u hu
    match j, hu with
    | 0, hu => simp at hu; subst hu; simpa [Addr.add] using hc
  · intro u hu; simp at hu; subst hu; rfl
  · intro v' w' hown' hg _
    have hO : OwnS B w' v' (l ++ [y]) := by simpa [OwnS] using hown'
    rcases hO.form with ⟨_, h0⟩ | ⟨g, cap, rfl, hB, _⟩
    · simp at h0
    · have hb : Below B w w' := (Below.refl B w).grown hg hbase (fun k hk => (World.ownsRow.lt hown k hk).1)
      have := h g cap w' (by simpa using hO) hB hb hg.size hg.block
      simpa using this
/-- .. as a step of a region that draws its order -/
theorem step_app_str {ops : Array Oper} {o : Oper} {a : Act} {K : Act → World → Prop} {Q : Exit → Act → World → Prop} {E : Prop} {w : World} (hgd : o.guard = none) (s x : Operand)
    (ho : o.op = .call { callee := .builtin .append, args := #[s, x], argTypes := #[121, 121] })
    (B : Nat) (l : List ByteArray) (v : Value) (hs : a.eval s = v) (hown : OwnS B w v l)
    (ad : Addr) (c : Nat) (y : ByteArray) (hx : a.eval x = .slice (some ad) 1 c) (hc : w.cell? ad = some (.string y))
    (hlen : l.length ≤ 1000000) (hbase : B ≤ w.heap.size)
    (h : ∀ g cap w', OwnS B w' (.slice (some ⟨g, 0, none⟩) (l.length + 1) cap) (l ++ [y]) → B ≤ g → Below B w w' → w.heap.size ≤ w'.heap.size → (∀ k, k < w.heap.size → some k ≠ v.ownBlock → w'.heap[k]? = w.heap[k]?) →
      K (a.put o.dst (.slice (some ⟨g, 0, none⟩) (l.length + 1) cap)) w') : if Region.wanted o (yielded ops a.tmps) = true then o.wp Tryz.prog a w K Q else E := by
  have hw : Region.wanted o (yielded ops a.tmps) = true := by simp [Region.wanted, hgd]
  rw [if_pos hw]
  exact wp_app_str s x ho B l v hs hown ad c y hx hc hlen hbase h
/-- .. in the list of a plain region -/
theorem app_str {ops : Array Oper} {rest : List Oper} {o : Oper} {a : Act} {Q : Exit → Act → World → Prop} {w : World} (hgd : o.guard = none) (s x : Operand)
    (ho : o.op = .call { callee := .builtin .append, args := #[s, x], argTypes := #[121, 121] })
    (B : Nat) (l : List ByteArray) (v : Value) (hs : a.eval s = v) (hown : OwnS B w v l)
    (ad : Addr) (c : Nat) (y : ByteArray) (hx : a.eval x = .slice (some ad) 1 c) (hc : w.cell? ad = some (.string y))
    (hlen : l.length ≤ 1000000) (hbase : B ≤ w.heap.size)
    (h : ∀ g cap w', OwnS B w' (.slice (some ⟨g, 0, none⟩) (l.length + 1) cap) (l ++ [y]) → B ≤ g → Below B w w' → w.heap.size ≤ w'.heap.size → (∀ k, k < w.heap.size → some k ≠ v.ownBlock → w'.heap[k]? = w.heap[k]?) →
      wpList Tryz.prog ops Q rest (a.put o.dst (.slice (some ⟨g, 0, none⟩) (l.length + 1) cap)) w') : wpList Tryz.prog ops Q (o :: rest) a w :=
  wpList_plain hgd fun _ hK => wp_app_str s x ho B l v hs hown ad c y hx hc hlen hbase fun g cap w' h1 h2 h3 h4 h5 => hK _ _ (h g cap w' h1 h2 h3 h4 h5)
end Go.Proofs.YtpfinfneclmjkaaGreatDoor
