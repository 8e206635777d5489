/- term.Text. Condition: the term lies; its signs are 0 to 8. -/
import Derived.Test.YtpfinfneclmjkaaGreatDoorSets
import Derived.Test.YtpfinfneclmjkaaGreatDoorBuilder
import Derived.Test.YtpfinfneclmjkaaGreatDoorShelf
namespace Go.Proofs.YtpfinfneclmjkaaGreatDoor
open Go.RowKit V

/-- the byte of a sign -/
def signB (s : Int) : UInt8 := if s = 0 then 65 else if s = 1 then 66 else if s = 2 then 67 else if s = 3 then 48 else if s = 4 then 49 else if s = 5 then 43 else if s = 6 then 42 else if s = 7 then 45 else 126
def termText (t : List Int) : ByteArray := ⟨(t.map signB).toArray⟩

set_option maxRecDepth 100000 in
theorem termText_any {P : Nat → Prop} (v : Value) (t : List Int) (w : World) (hv : Ints P w v t) (hs : ∀ s ∈ t, 0 ≤ s ∧ s ≤ 8) (hl : t.length ≤ 1000000) :
    Calls Tryz.prog 166 #[v] w fun e w' => e = .returned (.string (termText t)) ∧ Below w.heap.size w w' := by
  obtain ⟨ao, cap, rfl⟩ := hv.form
  have hfr := Lib.fresh_isBuilder 182 5 w
  have HV := Lib.hid hv
  have HS := Lib.hid hs
  have HF := Lib.hid hfr
  clear hv hs hfr
  go_enter Tryz.func166, Tryz.ntmps166
  go_wp2
  go_loopw [5, 8] (fun u i wr => ∃ k : Nat, k ≤ t.length ∧ i = .int .i64 k ∧ Lib.IsBuilder 182 5 w.heap.size w.heap.size (Lib.byteCells ((t.take k).map signB)) wr ∧ Below w.heap.size w wr) (fun _ i _ => t.length - (intOf i).toNat)
  case atStart => exact ⟨0, Nat.zero_le _, rfl, HF.out, (Below.refl _ _).alloc (Nat.le_refl _) _⟩
  case round =>
    obtain ⟨k, hk, rfl, hB, hW⟩ := hrel
    by_cases hlt : k < t.length
    · rcases HV.out with ⟨_, _, h0⟩ | ⟨b, off, c, hv, v2, v3, v4, v5, v6⟩
      · rw [h0] at hlt; simp at hlt
      · injection hv with e1 e2 e3
        subst e1
        subst e3
        have r0 : wr.cell? ⟨b, off + k, none⟩ = some (.int .i64 t[k]) := (hW.cell (p := ⟨b, off + k, none⟩) v5).trans (v6 k hlt)
        have hsk := HS.out t[k] (List.getElem_mem hlt)
        have hbs : (Lib.byteCells ((t.take k).map signB)).length = k := by simp [Lib.byteCells]; omega
        have HW := Lib.hid hW
        have HC := Lib.hid (fun c => writeByte_any w.heap.size w.heap.size _ c wr hB (by rw [hbs]; omega) hW.size)
        have HN := Lib.hid (show Lib.byteCells ((t.take k).map signB) ++ [Value.int .u8 ((signB t[k]).toNat : Int)] = Lib.byteCells ((t.take (k + 1)).map signB) by
          rw [List.take_succ_eq_append_getElem hlt]; simp only [Lib.byteCells, List.map_append, List.map_cons, List.map_nil])
        clear hB hW v6 hbs
        obtain ⟨x, hx⟩ : ∃ x, t[k] = x := ⟨_, rfl⟩
        rw [hx] at r0 hsk
        have HX := Lib.hid hx
        clear hx
        have hcase : x = 0 ∨ x = 1 ∨ x = 2 ∨ x = 3 ∨ x = 4 ∨ x = 5 ∨ x = 6 ∨ x = 7 ∨ x = 8 := by omega
        rcases hcase with rfl | rfl | rfl | rfl | rfl | rfl | rfl | rfl | rfl <;>
        · go_wp2_with fail
          refine Calls.mono (HC.out _) ?_
          rintro e w1 ⟨rfl, hB1, hb1⟩
          have HB1 := Lib.hid hB1
          have Hb1 := Lib.hid hb1
          clear hB1 hb1
          go_wp2
          go_roundw
          case rel => exact ⟨k + 1, by omega, by go_num, by refine .inr ?_; have e := HN.out; rw [HX.out] at e; rw [← e]; exact HB1.out, HW.out.trans Hb1.out⟩
          case measure => simp [intOf]; omega
    · have hk2 : t.take k = t := List.take_of_length_le (by omega)
      rw [hk2] at hB
      have HC := Lib.hid (Tryz.Builder_String_any w.heap.size w.heap.size _ wr hB hW.size)
      have HW := Lib.hid hW
      clear hB hW
      go_wp2_with fail
      refine Calls.mono HC.out ?_
      rintro e w1 ⟨rfl, hb1⟩
      have Hb1 := Lib.hid hb1
      clear hb1
      go_wp2
      go_ret
      exact ⟨rfl, HW.out.trans Hb1.out⟩
end Go.Proofs.YtpfinfneclmjkaaGreatDoor
