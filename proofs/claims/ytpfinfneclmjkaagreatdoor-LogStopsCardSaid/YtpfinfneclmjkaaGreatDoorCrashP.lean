/- What is left of a log's bytes behind a crash: the lines that are whole. Plain Lean, no program. -/
import Derived.Lib.LastIndexByte
import Derived.Lib.Bytealg
namespace Go.Proofs.YtpfinfneclmjkaaGreatDoor

/-- a list of bytes up to its last newline, and with it -/
def cutL : List UInt8 → List UInt8
  | [] => []
  | b :: l => if (10 : UInt8) ∈ b :: l then b :: cutL l else []
theorem cutL_none {l : List UInt8} (h : (10 : UInt8) ∉ l) : cutL l = [] := by
  cases l with
  | nil => rfl
  | cons b l => rw [cutL, if_neg h]
theorem cutL_app (x r : List UInt8) : cutL (x ++ 10 :: r) = x ++ 10 :: cutL r := by
  induction x with
  | nil => rw [List.nil_append, cutL, if_pos (by simp)]; rfl
  | cons b x ih => rw [List.cons_append, cutL, if_pos (by simp), ih]; rfl
theorem cutL_snoc (l : List UInt8) (x : UInt8) (hx : x ≠ 10) : cutL (l ++ [x]) = cutL l := by
  induction l with
  | nil =>
    rw [List.nil_append, cutL_none]
    · rfl
    · intro h; exact hx (List.mem_singleton.1 h).symm
  | cons b l ih =>
    have e : (10 : UInt8) ∈ b :: (l ++ [x]) ↔ (10 : UInt8) ∈ b :: l := by
      simp only [List.mem_cons, List.mem_append, List.not_mem_nil, or_false]
      constructor
      · rintro (h | h | h)
        · exact .inl h
        · exact .inr h
        · exact absurd h.symm hx
      · rintro (h | h)
        · exact .inl h
        · exact .inr (.inl h)
    rw [List.cons_append, cutL, ih]
    by_cases h : (10 : UInt8) ∈ b :: l
    · rw [if_pos (e.2 h), cutL, if_pos h]
    · rw [if_neg (fun h' => h (e.1 h')), cutL, if_neg h]
theorem cutL_take (l : List UInt8) : cutL l = l.take (cutL l).length := by
  induction l with
  | nil => rfl
  | cons b l ih =>
    rw [cutL]
    split
    · rw [List.length_cons, List.take_succ_cons, ← ih]
    · rfl
theorem cutL_count (l : List UInt8) : (cutL l).count 10 = l.count 10 := by
  induction l with
  | nil => rfl
  | cons b l ih =>
    rw [cutL]
    split
    · rw [List.count_cons, List.count_cons, ih]
    · rename_i h
      exact (List.count_eq_zero.2 h).symm

theorem lastIdx_cut (s : ByteArray) : ∀ k, k ≤ s.size → Lib.lastIdx s 10 k + 1 = ((cutL (s.data.toList.take k)).length : Int)
  | 0, _ => rfl
  | k + 1, hk => by
    have hk' : k < s.data.toList.length := hk
    have hk2 : k < s.data.size := hk
    have e : s.data.toList.take (k + 1) = s.data.toList.take k ++ [s.data[k]!] := by
      rw [List.take_add_one, List.getElem?_eq_getElem hk']
      simp [getElem!_pos s.data k hk2]
    rw [Lib.lastIdx, e]
    split
    · rename_i h
      have : s.data[k]! = 10 := by
        apply UInt8.toNat_inj.1
        have : ((s.data[k]!).toNat : Int) = 10 := h
        show _ = 10
        omega
      rw [this, show (10 : UInt8) :: ([] : List UInt8) = 10 :: [] from rfl, cutL_app]
      simp [cutL]
      omega
    · rename_i h
      rw [cutL_snoc _ _ (fun h' => h (by rw [h']; rfl))]
      exact lastIdx_cut s k (by omega)
theorem lastIndex_cut (s : ByteArray) : Lib.lastIndexByte s 10 + 1 = ((cutL s.data.toList).length : Int) := by
  have := lastIdx_cut s s.size (Nat.le_refl _)
  rwa [show s.data.toList.take s.size = s.data.toList from List.take_of_length_le (Nat.le_refl _)] at this

/-- a line: its last byte is a newline, and no other -/
def Line (l : List UInt8) : Prop := ∃ b, l = b ++ [10] ∧ (10 : UInt8) ∉ b
/-- how many lines of these lengths are whole among so many bytes -/
def whole : List Nat → Nat → Nat
  | [], _ => 0
  | n :: ns, p => if n ≤ p then whole ns (p - n) + 1 else 0
theorem whole_le (ns : List Nat) : ∀ p, whole ns p ≤ ns.length := by
  induction ns with
  | nil => intro p; exact Nat.le_refl _
  | cons n ns ih =>
    intro p
    rw [whole, List.length_cons]
    split
    · have := ih (p - n); omega
    · omega
theorem cut_lines (ls : List (List UInt8)) (hl : ∀ l ∈ ls, Line l) (part : List UInt8) (hp : (10 : UInt8) ∉ part) : ∀ p, cutL ((ls.flatten ++ part).take p) = (ls.take (whole (ls.map List.length) p)).flatten := by
  induction ls with
  | nil =>
    intro p
    rw [List.flatten_nil, List.nil_append, cutL_none fun h => hp (List.mem_of_mem_take h)]
    rfl
  | cons l ls ih =>
    intro p
    have ih := ih fun m hm => hl m (List.mem_cons_of_mem _ hm)
    obtain ⟨b, rfl, hb⟩ := hl _ List.mem_cons_self
    rw [List.map_cons, whole, List.flatten_cons, List.append_assoc]
    split
    · rename_i h
      rw [List.take_append, List.take_of_length_le h, List.append_assoc, List.singleton_append, cutL_app, ih, List.take_succ_cons, List.flatten_cons]
      simp
    · rename_i h
      have h' : p ≤ b.length := by simp at h; omega
      rw [List.append_assoc, List.take_append_of_le_length h', cutL_none fun hm => hb (List.mem_of_mem_take hm)]
      rfl
theorem count_lines (ls : List (List UInt8)) (hl : ∀ l ∈ ls, Line l) : ls.flatten.count 10 = ls.length := by
  induction ls with
  | nil => rfl
  | cons l ls ih =>
    have ih := ih fun m hm => hl m (List.mem_cons_of_mem _ hm)
    obtain ⟨b, rfl, hb⟩ := hl _ List.mem_cons_self
    rw [List.flatten_cons, List.count_append, List.count_append, List.count_eq_zero.2 hb, ih]
    simp; omega
/-- the bytes of a log: whole lines, and what was cut of one -/
def BytesAre (y : ByteArray) (ls : List (List UInt8)) (part : List UInt8) : Prop := y.data.toList = ls.flatten ++ part ∧ (∀ l ∈ ls, Line l) ∧ (10 : UInt8) ∉ part
/-- what a crash leaves -/
theorem crash_cut {y : ByteArray} {ls : List (List UInt8)} {part : List UInt8} (h : BytesAre y ls part) (p : Nat) :
    let z := y.extract 0 p; let m := whole (ls.map List.length) p
    Lib.lastIndexByte z 10 + 1 = (((ls.take m).flatten.length : Nat) : Int) ∧ (ls.take m).flatten.length ≤ z.size ∧ BytesAre (z.extract 0 (ls.take m).flatten.length) (ls.take m) [] ∧ Lib.countByte (z.extract 0 (ls.take m).flatten.length).data.toList 10 = m := by
  intro z m
  have hz : z.data.toList = (ls.flatten ++ part).take p := by
    show ((y.extract 0 p).data).toList = _
    rw [← h.1]
    simp
  have hc : cutL z.data.toList = (ls.take m).flatten := by rw [hz]; exact cut_lines ls h.2.1 part h.2.2 p
  have hls : ∀ l ∈ ls.take m, Line l := fun l hl => h.2.1 l (List.mem_of_mem_take hl)
  have ht := cutL_take z.data.toList
  have hlen : (ls.take m).flatten.length ≤ z.size := by
    have := congrArg List.length ht
    rw [List.length_take, hc] at this
    have e : z.data.toList.length = z.size := rfl
    omega
  have he : (z.extract 0 (ls.take m).flatten.length).data.toList = (ls.take m).flatten := by
    rw [hc] at ht
    rw [show (z.extract 0 (ls.take m).flatten.length).data.toList = z.data.toList.take (ls.take m).flatten.length by rw [ByteArray.data_extract]; simp]
    exact ht.symm
  refine ⟨by rw [lastIndex_cut, hc], hlen, ⟨by rw [he, List.append_nil], hls, by simp⟩, ?_⟩
  rw [he]
  show (ls.take m).flatten.count 10 = m
  rw [count_lines _ hls, List.length_take]
  have := whole_le (ls.map List.length) p
  rw [List.length_map] at this
  exact Nat.min_eq_left this
end Go.Proofs.YtpfinfneclmjkaaGreatDoor
