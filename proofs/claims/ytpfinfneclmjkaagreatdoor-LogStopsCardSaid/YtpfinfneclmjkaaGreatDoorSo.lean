/- Package core: whether all of some hold in a world. Conditions: they and the world are right; the table of the kinds lies as its text lays it. -/
import Derived.Test.YtpfinfneclmjkaaGreatDoorForms
import Derived.Test.YtpfinfneclmjkaaGreatDoorFormTrue
namespace Go.Proofs.YtpfinfneclmjkaaGreatDoor
open Go.RowKit V

theorem enters_so1 : Enters 207 := fun _ _ => by kernel_rfl

set_option maxRecDepth 100000 in
theorem so1_any {P : Nat → Prop} (va vc : Value) (f : Fm) (u a b c : Int) (bw : Nat) (w : World) (hf : FmV P w va vc f) (hk : Kinds w) (hF : formCheck f = 0) (hW : WdOk ⟨u, a, b, c⟩)
    (c0 : w.cell? ⟨bw, 0, none⟩ = some (.int .i64 u)) (c1 : w.cell? ⟨bw, 1, none⟩ = some (.int .i64 a)) (c2 : w.cell? ⟨bw, 2, none⟩ = some (.int .i64 b)) (c3 : w.cell? ⟨bw, 3, none⟩ = some (.int .i64 c)) :
    Calls Tryz.prog 207 #[.agg #[va, vc], .pointer (some ⟨bw, 0, none⟩)] w fun e w' => e = .returned (.bool (!formTrue f ⟨u, a, b, c⟩)) ∧ Below w.heap.size w w' := by
  have hbw : bw < w.heap.size := World.block_lt_of_cell? w _ c0
  have HC : ∀ o, Hid (Calls Tryz.prog 94 #[.agg #[va, vc], .agg #[.int .i64 u, .int .i64 a, .int .i64 b, .int .i64 c]] (w.alloc o) fun e w' => e = .returned (.bool (formTrue f ⟨u, a, b, c⟩)) ∧ Below (w.alloc o).heap.size (w.alloc o) w') :=
    fun o => formTrue_any va vc f u a b c (w.alloc o) (hf.alloc o) (hk.keep ((Below.refl _ _).alloc (Nat.le_refl _) o)) hF hW
  clear hf hk hF
  go_enter Tryz.func207, Tryz.ntmps207
  go_wp2_with fail
  refine (HC _).out.mono ?_
  rintro e w1 ⟨rfl, hb1⟩
  have HB := Lib.hid hb1
  clear hb1
  go_wp2
  go_ret
  exact ⟨rfl, ((Below.refl _ _).alloc (Nat.le_refl _) _).trans (HB.out.mono (by simp))⟩

def idxF (p : Fm → Bool) : List Fm → Int → Int
  | [], _ => -1
  | x :: r, i => if p x then i else idxF p r (i + 1)
theorem idxF_any (p : Fm → Bool) (l : List Fm) : ∀ i, 0 ≤ i → decide (0 ≤ idxF p l i) = l.any p := by
  induction l with
  | nil => intro i _; simp [idxF]
  | cons x r ih =>
    intro i hi
    unfold idxF
    by_cases h : p x
    · simp [h, hi]
    · simp [h, ih (i + 1) (by omega)]
theorem idxF_no (p : Fm → Bool) (l : List Fm) (k : Nat) (hk : ∀ j, j < k → ∀ h : j < l.length, p l[j] = false) (hl : k ≤ l.length) : idxF p l 0 = idxF p (l.drop k) k := by
  induction k with
  | zero => rfl
  | succ k ih =>
    rw [ih (fun j hj h => hk j (by omega) h) (by omega), List.drop_eq_getElem_cons (by omega)]
    have h := hk k (by omega) (by omega)
    simp [idxF, h]

set_option maxHeartbeats 400000 in
set_option maxRecDepth 100000 in
theorem indexForm_any {P : Nat → Prop} (F : FuncId) (cap : Array Value) (p : Fm → Bool) (v : Value) (l : List Fm) (w : World) (hv : Fms P w v l) (hF : Enters F)
    (hp : ∀ x ∈ l, ∀ va vc w', Below w.heap.size w w' → FmV P w' va vc x → Calls Tryz.prog F (#[.agg #[va, vc]] ++ cap) w' fun e w'' => e = .returned (.bool (p x)) ∧ Below w'.heap.size w' w'') :
    Calls Tryz.prog 244 #[v, .func (.func F) #[] cap] w fun e w' => e = .returned (.int .i64 (idxF p l 0)) ∧ Below w.heap.size w w' := by
  rcases hv with ⟨rfl, rfl⟩ | ⟨b, off, c, rfl, h2, h3, h4, h5, h6⟩
  · go_enter Tryz.func244, Tryz.ntmps244
    go_wp2
    go_loop [8] (fun i => i = .int .i64 0) (fun _ => 0)
    case atStart => rfl
    case round =>
      subst hrel
      go_wp2
      go_ret
      exact ⟨rfl, Below.refl _ _⟩
  · unfold maxLen at h3
    have HP := Lib.hid hp
    have H6 := Lib.hid h6
    unfold Enters at hF
    clear hp h6
    go_enter Tryz.func244, Tryz.ntmps244
    go_wp2
    go_loopw [5, 8] (fun u i wr => ∃ k : Nat, k ≤ l.length ∧ i = .int .i64 k ∧ (∀ j, j < k → ∀ h : j < l.length, p l[j] = false) ∧ Below w.heap.size w wr) (fun _ i _ => l.length - (intOf i).toNat)
    case atStart => exact ⟨0, Nat.zero_le _, rfl, fun j hj _ => by omega, Below.refl _ _⟩
    case round =>
      obtain ⟨k, hk, rfl, hno, hB⟩ := hrel
      have HN := Lib.hid hno
      clear hno
      by_cases hlt : k < l.length
      · obtain ⟨va, vc, q0, q1, q2⟩ := H6.out k hlt
        have r0 : wr.cell? ⟨b, off + k * 2, none⟩ = some va := (hB.cell (p := ⟨b, off + k * 2, none⟩) h5).trans q0
        have r1 : wr.cell? ⟨b, off + k * 2 + 1, none⟩ = some vc := (hB.cell (p := ⟨b, off + k * 2 + 1, none⟩) h5).trans q1
        have HC := Lib.hid (HP.out l[k] (List.getElem_mem hlt) va vc wr hB (q2.below hB))
        have HB := Lib.hid hB
        clear q0 q1 q2 hB
        cases hpk : p l[k]
        · have HK := Lib.hid hpk
          clear hpk
          go_wp2_with fail
          refine HC.out.mono ?_
          rw [HK.out]
          rintro e w1 ⟨rfl, hb1⟩
          have HB1 := Lib.hid hb1
          clear hb1
          go_wp2
          go_roundw
          case rel => exact ⟨k + 1, by omega, by go_num, fun j hj h => by
            by_cases h' : j = k
            · subst h'; exact HK.out
            · exact HN.out j (by omega) h, HB.out.trans (HB1.out.mono HB.out.size)⟩
          case measure => simp [intOf]; omega
        · have HK := Lib.hid hpk
          clear hpk
          go_wp2_with fail
          refine HC.out.mono ?_
          rw [HK.out]
          rintro e w1 ⟨rfl, hb1⟩
          have HB1 := Lib.hid hb1
          clear hb1
          go_wp2
          go_ret
          refine ⟨ret_int ?_, HB.out.trans (HB1.out.mono HB.out.size)⟩
          rw [idxF_no p l k HN.out hk, List.drop_eq_getElem_cons hlt]
          simp [idxF, HK.out]
      · have HB := Lib.hid hB
        clear hB
        go_wp2
        go_ret
        refine ⟨ret_int ?_, HB.out⟩
        rw [idxF_no p l k HN.out hk, List.drop_eq_nil_of_le (by omega)]
        rfl

theorem containsForm_any {P : Nat → Prop} (F : FuncId) (cap : Array Value) (p : Fm → Bool) (v : Value) (l : List Fm) (w : World) (hv : Fms P w v l) (hF : Enters F)
    (hp : ∀ x ∈ l, ∀ va vc w', Below w.heap.size w w' → FmV P w' va vc x → Calls Tryz.prog F (#[.agg #[va, vc]] ++ cap) w' fun e w'' => e = .returned (.bool (p x)) ∧ Below w'.heap.size w' w'') :
    Calls Tryz.prog 206 #[v, .func (.func F) #[] cap] w fun e w' => e = .returned (.bool (l.any p)) ∧ Below w.heap.size w w' := by
  have HC := Lib.hid (indexForm_any F cap p v l w hv hF hp)
  clear hp hv hF
  go_enter Tryz.func206, Tryz.ntmps206
  go_wp2_with fail
  refine HC.out.mono ?_
  rintro e w' ⟨rfl, hb⟩
  have HB := Lib.hid hb
  clear hb
  go_wp2
  go_ret
  exact ⟨ret_bool (idxF_any p l 0 (by omega)), HB.out⟩

def allTrue (l : List Fm) (W : Wd) : Bool := !l.any fun f => !formTrue f W

set_option maxRecDepth 100000 in
theorem so_any {P : Nat → Prop} (v : Value) (l : List Fm) (u a b c : Int) (w : World) (hv : Fms P w v l) (hk : Kinds w) (hF : ∀ f ∈ l, formCheck f = 0) (hW : WdOk ⟨u, a, b, c⟩) :
    Calls Tryz.prog 161 #[v, .agg #[.int .i64 u, .int .i64 a, .int .i64 b, .int .i64 c]] w fun e w' => e = .returned (.bool (allTrue l ⟨u, a, b, c⟩)) ∧ Below w.heap.size w w' := by
  have HC := Lib.hid (containsForm_any (P := P) 207 #[.pointer (some ⟨w.heap.size, 0, none⟩)] (fun f => !formTrue f ⟨u, a, b, c⟩) v l
    (w.alloc (.cells #[.int .i64 u, .int .i64 a, .int .i64 b, .int .i64 c] 34)) (hv.alloc _) enters_so1 (fun x hx va vc w' hb hf => by
      have hkw : Kinds w' := hk.below (((Below.refl _ w).alloc (Nat.le_refl _) _).trans (hb.mono (by simp))) hk.size
      have hcell : ∀ i, w'.cell? ⟨w.heap.size, i, none⟩ = (#[Value.int .i64 u, .int .i64 a, .int .i64 b, .int .i64 c] : Array Value)[i]? := fun i =>
        (hb.cell (p := ⟨w.heap.size, i, none⟩) (by simp)).trans (by simp)
      exact so1_any va vc x u a b c w.heap.size w' hf hkw (hF x hx) hW (hcell 0) (hcell 1) (hcell 2) (hcell 3)))
  clear hv hk hF
  go_enter Tryz.func161, Tryz.ntmps161
  go_wp2_with fail
  refine HC.out.mono ?_
  rintro e w1 ⟨rfl, hb⟩
  have HB := Lib.hid hb
  clear hb
  go_wp2
  go_ret
  exact ⟨rfl, ((Below.refl _ _).alloc (Nat.le_refl _) _).trans (HB.out.mono (by simp))⟩
end Go.Proofs.YtpfinfneclmjkaaGreatDoor
