/- The log's Open. Conditions: the log lies in a block; what was said lies, and is right; the table of the kinds lies as its text lays it. -/
import Derived.Test.YtpfinfneclmjkaaGreatDoorSome
import Derived.Test.YtpfinfneclmjkaaGreatDoorLog0
namespace Go.Proofs.YtpfinfneclmjkaaGreatDoor
open Go.RowKit V

set_option maxHeartbeats 1000000 in
set_option maxRecDepth 100000 in
theorem logOpen_any {P : Nat → Prop} (b : Nat) (u : Int) (vs : Value) (y : ByteArray) (s l : Int) (st : Bool) (said : List Fm) (w : World) (h : LogAt w b u vs y s l st) (hv : Fms P w vs said) (hF : ∀ f ∈ said, formCheck f = 0) (hk : Kinds w) (hu : 0 ≤ u ∧ u ≤ 6) :
    Calls Tryz.prog 35 #[.pointer (some ⟨b, 0, none⟩)] w fun e w' => e = .returned (.bool (someW said u)) ∧ Below w.heap.size w w' := by
  obtain ⟨c0, c1, c2, c3, c4, c5, hf⟩ := h.cells
  clear hf h c2 c3 c4 c5
  obtain ⟨ao, cap, rfl⟩ := hv.form
  have hlt : b < w.heap.size := World.block_lt_of_cell? w _ c0
  have HC := Lib.hid (fun n => some_any (.slice ao said.length cap) said u (w.drewN n) hv hk hF hu.1 hu.2)
  clear hv hF hk
  go_enter Tryz.func35, Tryz.ntmps35
  go_wp2
  go_region_held3 (fun w' => w'.cell? ⟨b, 1, none⟩ = some (.slice ao said.length cap) ∧ w'.cell? ⟨b, 0, none⟩ = some (.int .i64 u)) (first | (exact ⟨y1, y0⟩) | go_keep) ((go_at_call 97; refine Calls.mono (HC.out 1) ?_; rintro e w1 ⟨rfl, hb1⟩; have y1 := (hb1.cell (p := ⟨b, 1, none⟩) hlt).trans c1; have y0 := (hb1.cell (p := ⟨b, 0, none⟩) hlt).trans c0))
  all_goals
    have HB := Lib.hid ((below_drewN (Below.refl w.heap.size w) 1).trans hb1)
    clear hb1
    go_wp2
    go_ret
    exact ⟨rfl, HB.out⟩
end Go.Proofs.YtpfinfneclmjkaaGreatDoor
