/- The number of an error: errors.As at the plain errors of this program. Condition: the variable of the error type lies as it was laid. -/
import Derived.Test.YtpfinfneclmjkaaGreatDoorBase
import Derived.LaidEql
import Derived.Stop.Asserts
import Derived.RowKitTokens
namespace Go.Proofs.YtpfinfneclmjkaaGreatDoor
open Go.RowKit Go.Extern.Stop Go.Stop Go.Extern

/-- the handle of a type -/
abbrev tyH (t : Nat) : Value := .pointer (some ⟨12, t, none⟩)
/-- errors.errorType lies as it was laid -/
def ErrT (w : World) : Prop := w.cell? ⟨2, 0, none⟩ = some (.iface 281 (.agg #[.pointer (some ⟨12, 29, none⟩)]))
theorem ErrT.size {w : World} (h : ErrT w) : 2 < w.heap.size := World.block_lt_of_cell? w _ h
theorem ErrT.keep {w w' : World} (h : ErrT w) (hb : Below w.heap.size w w') : ErrT w' := (hb.cell (p := ⟨2, 0, none⟩) h.size).trans h

theorem asVP (t : Addr) (w : World) : (ReflectliteValue.unpack (.iface 208 (.pointer (some t)))).run Tryz.prog w
    = .ok (.agg #[.pointer (some ⟨12, 208, none⟩), .pointer (some ⟨w.heap.size, 0, none⟩), .int .u64 150]) (w.alloc (.cells #[.pointer (some t)] 208)) := by kernel_rfl
theorem asTP (a : Addr) (w : World) : (ReflectliteValue.methodAny (ReflectliteValue.valueError "reflectlite.Value.Type" 0) (fun t _ _ _ => ReflectliteType.toType t) #[.agg #[.pointer (some ⟨12, 208, none⟩), .pointer (some a), .int .u64 150]]).run Tryz.prog w
    = .ok (.iface 281 (.agg #[.pointer (some ⟨12, 208, none⟩)])) w := by kernel_rfl
theorem asKP (w : World) : ((ReflectliteType.abiMethod fun t => (fun a : Nat => Value.int IntKind.u8 (a : Int)) <$> Rtype.kind t) #[.pointer (some ⟨12, 208, none⟩)]).run Tryz.prog w = .ok (.int .u8 22) w := by kernel_rfl
theorem asKE (w : World) : ((ReflectliteType.abiMethod fun t => (fun a : Nat => Value.int IntKind.u8 (a : Int)) <$> Rtype.kind t) #[.pointer (some ⟨12, 135, none⟩)]).run Tryz.prog w = .ok (.int .u8 2) w := by kernel_rfl
theorem asMK (h : Value) (w : World) : (Go.method 487 281 (.agg #[h]) "Kind").run Tryz.prog w = .ok (347, h) w := by kernel_rfl
theorem asME (h : Value) (w : World) : (Go.method 487 281 (.agg #[h]) "Elem").run Tryz.prog w = .ok (357, .agg #[h]) w := by kernel_rfl
theorem asMI (h : Value) (w : World) : (Go.method 487 281 (.agg #[h]) "Implements").run Tryz.prog w = .ok (358, .agg #[h]) w := by kernel_rfl
theorem asMA (h : Value) (w : World) : (Go.method 487 281 (.agg #[h]) "AssignableTo").run Tryz.prog w = .ok (355, .agg #[h]) w := by kernel_rfl
theorem asEP (w : World) : (ReflectliteType.method ReflectliteType.elem #[.agg #[.pointer (some ⟨12, 208, none⟩)]]).run Tryz.prog w = .ok (.iface 281 (.agg #[.pointer (some ⟨12, 135, none⟩)])) w := by kernel_rfl
theorem asIE (w : World) : (ReflectliteType.relation "Implements" ReflectliteType.implements_ #[.agg #[.pointer (some ⟨12, 135, none⟩)], .iface 281 (.agg #[.pointer (some ⟨12, 29, none⟩)])]).run Tryz.prog w = .ok (.bool true) w := by kernel_rfl
theorem asTO (v : Value) (w : World) : (ReflectliteType.typeOf #[.iface 135 v]).run Tryz.prog w = .ok (.iface 281 (.agg #[.pointer (some ⟨12, 135, none⟩)])) w := by kernel_rfl
theorem asAE (w : World) : (ReflectliteType.relation "AssignableTo" ReflectliteType.assignableTo #[.agg #[.pointer (some ⟨12, 135, none⟩)], .iface 281 (.agg #[.pointer (some ⟨12, 135, none⟩)])]).run Tryz.prog w = .ok (.bool true) w := by kernel_rfl
theorem asVE (n : Int) (w : World) : (ReflectliteValue.unpack (.iface 135 (.int .i64 n))).run Tryz.prog w
    = .ok (.agg #[.pointer (some ⟨12, 135, none⟩), .pointer (some ⟨w.heap.size, 0, none⟩), .int .u64 130]) (w.alloc (.cells #[.int .i64 n] 135)) := by kernel_rfl

theorem asRm (z : Sem Value) (f : TypeId → Addr → Nat → Nat → Sem Value) (v : Value) :
    ReflectliteValue.method z f #[v] = (do match ← ReflectliteValue.parts v with | none => z | some (t, a, fl) => f t a fl (fl % 32)) := rfl
theorem asPP (a : Addr) (w : World) : (ReflectliteValue.parts (.agg #[.pointer (some ⟨12, 208, none⟩), .pointer (some a), .int .u64 150])).run Tryz.prog w = .ok (some (208, a, 150)) w := by kernel_rfl
theorem asNP (a p : Addr) (W : World) (ha : W.cell? a = some (.pointer (some p))) :
    (ReflectliteValue.method (ReflectliteValue.valueError "reflectlite.Value.IsNil" 0) ReflectliteValue.isNil #[.agg #[.pointer (some ⟨12, 208, none⟩), .pointer (some a), .int .u64 150]]).run Tryz.prog W = .ok (.bool false) W := by
  rw [asRm]
  simp only [Sem.run_bind, asPP, Result.andThen]
  simp [ReflectliteValue.isNil, loadVar, isAgg, underlying, Tryz.underlying208, ha, Result.andThen]
theorem asOP (w : World) : (Rtype.elem? 208).run Tryz.prog w = .ok (some 135) w := by kernel_rfl
theorem asMkE (p : Addr) (w : World) : (ReflectliteValue.mk 135 p ReflectliteValue.flagAddr).run Tryz.prog w = .ok (.agg #[.pointer (some ⟨12, 135, none⟩), .pointer (some p), .int .u64 386]) w := by kernel_rfl
theorem asEl (a p : Addr) (W : World) (ha : W.cell? a = some (.pointer (some p))) :
    (ReflectliteValue.method (ReflectliteValue.valueError "reflectlite.Value.Elem" 0) ReflectliteValue.elem #[.agg #[.pointer (some ⟨12, 208, none⟩), .pointer (some a), .int .u64 150]]).run Tryz.prog W
      = .ok (.agg #[.pointer (some ⟨12, 135, none⟩), .pointer (some p), .int .u64 386]) W := by
  rw [asRm]
  simp only [Sem.run_bind, asPP, Result.andThen]
  simp [ReflectliteValue.elem, loadVar, isAgg, underlying, Tryz.underlying208, ha, Result.andThen, asOP, asMkE]
theorem asRs (v x : Value) : ReflectliteValue.set #[v, x] = (do
    let (some (dst, a, fl), some (src, b, _)) := (← ReflectliteValue.parts v, ← ReflectliteValue.parts x)
      | unsupported (.noEntry "extern/(internal/reflectlite.Value).Set.zeroValue")
    if fl / ReflectliteValue.flagAddr % 2 == 0 then unsupported (.noEntry "extern/(internal/reflectlite.Value).Set.unaddressable")
    let val ← loadVar src b
    if ← Rtype.directlyAssignable dst src then storeVar dst a val
    else if ← Rtype.implements dst src then
      if (← Rtype.kind src) == 20 then
        match val with
        | .nilIface => unsupported (.noEntry "extern/reflectlite: a nil value of one interface type handed on as a value of another")
        | _ => storeVar dst a val
      else storeVar dst a (.iface src val)
    else panicString ("reflectlite.Set: value of type " ++ (← Rtype.spelt src) ++ " is not assignable to type " ++ (← Rtype.spelt dst))
    pure (.tuple #[])) := rfl
theorem asPEa (a : Addr) (w : World) : (ReflectliteValue.parts (.agg #[.pointer (some ⟨12, 135, none⟩), .pointer (some a), .int .u64 386])).run Tryz.prog w = .ok (some (135, a, 386)) w := by kernel_rfl
theorem asPE (a : Addr) (w : World) : (ReflectliteValue.parts (.agg #[.pointer (some ⟨12, 135, none⟩), .pointer (some a), .int .u64 130])).run Tryz.prog w = .ok (some (135, a, 130)) w := by kernel_rfl
theorem asDE (w : World) : (Rtype.directlyAssignable 135 135).run Tryz.prog w = .ok true w := by kernel_rfl
theorem asSet (ta b : Addr) (e : Int) (old : Value) (W : World) (hb : W.cell? b = some (.int .i64 e)) (ht : W.cell? ta = some old) (hf : W.frozen? ta = false) :
    (ReflectliteValue.set #[.agg #[.pointer (some ⟨12, 135, none⟩), .pointer (some ta), .int .u64 386], .agg #[.pointer (some ⟨12, 135, none⟩), .pointer (some b), .int .u64 130]]).run Tryz.prog W
      = .ok (.tuple #[]) (W.setCell ta (.int .i64 e)) := by
  rw [asRs]
  simp only [Sem.run_bind, asPEa, asPE, Result.andThen]
  simp [ReflectliteValue.flagAddr, loadVar, isAgg, underlying, Tryz.underlying135, hb, Result.andThen, asDE, storeVar, Value.cells, storeCells, Addr.add]
  rw [run_store Tryz.prog W ta _ _ (by rfl)]
  simp [ht, hf]

theorem as_nil (t : Value) (w : World) : Calls Tryz.prog 162 #[.nilIface, t] w fun e w' => e = .returned (.bool false) ∧ w = w' := by
  go_enter Tryz.func162, Tryz.ntmps162
  go_wp2
  go_ret
  exact ⟨rfl, rfl⟩

set_option maxHeartbeats 4000000 in
set_option maxRecDepth 100000 in
theorem as_hit (n : Int) (t : Addr) (old : Value) (w : World) (hg : ErrT w) (ht0 : w.cell? t = some old) (hf0 : w.frozen? t = false) :
    Calls Tryz.prog 162 #[.iface 135 (.int .i64 n), .iface 208 (.pointer (some t))] w fun ev w' => ev = .returned (.bool true) ∧ ∃ w1, Below w.heap.size w w1 ∧ w1.setCell t (.int .i64 n) = w' := by
  have h6 := @run_callFunc_extern Tryz.prog 208 _ (fun args => ReflectliteValue.unpack (args.getD 0 (.tuple #[]))) Tryz.func208 (by kernel_rfl) (by kernel_rfl) (by kernel_rfl) (by kernel_rfl)
  have h7 := @run_callFunc_extern Tryz.prog 209 _ (ReflectliteValue.methodAny (ReflectliteValue.valueError "reflectlite.Value.Type" 0) (fun t _ _ _ => ReflectliteType.toType t)) Tryz.func209 (by kernel_rfl) (by kernel_rfl) (by kernel_rfl) (by kernel_rfl)
  have h8 := @run_callFunc_extern Tryz.prog 210 _ (ReflectliteValue.method (ReflectliteValue.valueError "reflectlite.Value.IsNil" 0) ReflectliteValue.isNil) Tryz.func210 (by kernel_rfl) (by kernel_rfl) (by kernel_rfl) (by kernel_rfl)
  have h27 := @run_callFunc_extern Tryz.prog 347 _ (ReflectliteType.abiMethod fun t => do pure (.int .u8 (← Rtype.kind t))) Tryz.func347 (by kernel_rfl) (by kernel_rfl) (by kernel_rfl) (by kernel_rfl)
  have h37 := @run_callFunc_extern Tryz.prog 357 _ (ReflectliteType.method ReflectliteType.elem) Tryz.func357 (by kernel_rfl) (by kernel_rfl) (by kernel_rfl) (by kernel_rfl)
  have h38 := @run_callFunc_extern Tryz.prog 358 _ (ReflectliteType.relation "Implements" ReflectliteType.implements_) Tryz.func358 (by kernel_rfl) (by kernel_rfl) (by kernel_rfl) (by kernel_rfl)
  have h10 := @run_callFunc_extern Tryz.prog 245 _ ReflectliteType.typeOf Tryz.func245 (by kernel_rfl) (by kernel_rfl) (by kernel_rfl) (by kernel_rfl)
  have h35 := @run_callFunc_extern Tryz.prog 355 _ (ReflectliteType.relation "AssignableTo" ReflectliteType.assignableTo) Tryz.func355 (by kernel_rfl) (by kernel_rfl) (by kernel_rfl) (by kernel_rfl)
  have h11 := @run_callFunc_extern Tryz.prog 246 _ (ReflectliteValue.method (ReflectliteValue.valueError "reflectlite.Value.Elem" 0) ReflectliteValue.elem) Tryz.func246 (by kernel_rfl) (by kernel_rfl) (by kernel_rfl) (by kernel_rfl)
  have h12 := @run_callFunc_extern Tryz.prog 247 _ ReflectliteValue.set Tryz.func247 (by kernel_rfl) (by kernel_rfl) (by kernel_rfl) (by kernel_rfl)
  have tO := asTO
  have mA := asMA
  have aE := asAE
  have vE := asVE
  have f6 := asVP
  have f7 := asTP
  have mK := asMK
  have mE := asME
  have mI := asMI
  have kP := asKP
  have kE := asKE
  have eP := asEP
  have iE := asIE
  have hlt := hg.size
  have htl : t.block < w.heap.size := World.block_lt_of_cell? w _ ht0
  have n8 := asNP ⟨w.heap.size, 0, none⟩ t ((w.alloc (.cells #[.pointer (some t)] 208)).alloc (.cells #[.pointer (some ⟨12, 208, none⟩), .pointer (some ⟨w.heap.size, 0, none⟩), .int .u64 150] 248)) (by simp)
  have hg2 : ((w.alloc (.cells #[.pointer (some t)] 208)).alloc (.cells #[.pointer (some ⟨12, 208, none⟩), .pointer (some ⟨w.heap.size, 0, none⟩), .int .u64 150] 248)).cell? ⟨2, 0, none⟩ = some (.iface 281 (.agg #[.pointer (some ⟨12, 29, none⟩)])) := by
    rw [World.cell?_alloc_lt _ _ ⟨2, 0, none⟩ (by simp; omega), World.cell?_alloc_lt _ _ ⟨2, 0, none⟩ hlt]; exact hg
  have el := asEl ⟨w.heap.size, 0, none⟩ t (((w.alloc (.cells #[.pointer (some t)] 208)).alloc (.cells #[.pointer (some ⟨12, 208, none⟩), .pointer (some ⟨w.heap.size, 0, none⟩), .int .u64 150] 248)).alloc (.cells #[.pointer (some ⟨12, 208, none⟩), .pointer (some ⟨w.heap.size, 0, none⟩), .int .u64 150] 248)) (by rw [World.cell?_alloc_lt _ _ ⟨w.heap.size, 0, none⟩ (by simp; omega)]; simp)
  have st := asSet t ⟨w.heap.size + 1 + 1 + 1, 0, none⟩ n old ((((w.alloc (.cells #[.pointer (some t)] 208)).alloc (.cells #[.pointer (some ⟨12, 208, none⟩), .pointer (some ⟨w.heap.size, 0, none⟩), .int .u64 150] 248)).alloc (.cells #[.pointer (some ⟨12, 208, none⟩), .pointer (some ⟨w.heap.size, 0, none⟩), .int .u64 150] 248)).alloc (.cells #[.int .i64 n] 135))
    (by rw [World.cell?_alloc_at _ _ _ _ (by simp)]; rfl)
    (by rw [World.cell?_alloc_lt _ _ t (by simp; omega), World.cell?_alloc_lt _ _ t (by simp; omega), World.cell?_alloc_lt _ _ t (by simp; omega), World.cell?_alloc_lt _ _ t htl]; exact ht0)
    (by rw [World.frozen?_alloc_old _ _ t (by simp; omega), World.frozen?_alloc_old _ _ t (by simp; omega), World.frozen?_alloc_old _ _ t (by simp; omega), World.frozen?_alloc_old _ _ t (Nat.ne_of_lt htl)]; exact hf0)
  go_enter Tryz.func162, Tryz.ntmps162
  go_wp2
  refine wp_loop_rounds 1 ?_
  rw [rounds_succ]
  go_wp2
  go_ret
  exact ⟨rfl, _, (((Below.refl _ _).alloc (Nat.le_refl _) _).alloc (by simp) _).alloc (by simp; omega) _ |>.alloc (by simp; omega) _, rfl⟩

set_option maxHeartbeats 4000000 in
set_option maxRecDepth 100000 in
theorem told_any (c : Int) (w : World) (hg : ErrT w) :
    Calls Tryz.prog 98 #[errV c] w fun e w' => e = .returned (.int .i64 c) ∧ Below w.heap.size w w' := by
  by_cases hc : c = 0
  · subst hc
    rw [errV_zero]
    go_enter Tryz.func98, Tryz.ntmps98
    go_wp2
    go_ret
    exact ⟨rfl, Below.refl _ _⟩
  · rw [errV_ne hc]
    have HC := Lib.hid (as_hit c ⟨w.heap.size, 0, none⟩ (.int .i64 0) (w.alloc (.cells #[.int .i64 0] 135)) (hg.keep ((Below.refl _ _).alloc (Nat.le_refl _) _)) (by simp) (by simp))
    go_enter Tryz.func98, Tryz.ntmps98
    go_wp2_with fail
    refine HC.out.mono ?_
    rintro e w' ⟨rfl, w1, hb, rfl⟩
    have hs := hb.size
    have hcell : w1.cell? ⟨w.heap.size, 0, none⟩ = some (.int .i64 0) := (hb.cell (p := ⟨w.heap.size, 0, none⟩) (by simp)).trans (by simp)
    have hcell' : (w1.setCell ⟨w.heap.size, 0, none⟩ (.int .i64 c)).cell? ⟨w.heap.size, 0, none⟩ = some (.int .i64 c) := World.cell?_setCell_same' _ _ _ (by rw [hcell]; rfl)
    have HB := Lib.hid ((((Below.refl w.heap.size w).alloc (Nat.le_refl _) (.cells #[.int .i64 0] 135)).trans (hb.mono (by simp))).setCell (p := ⟨w.heap.size, 0, none⟩) (Nat.le_refl _) (.int .i64 c))
    clear hb hs
    go_wp2
    go_ret
    exact ⟨rfl, HB.out⟩

set_option maxRecDepth 100000 in
theorem same_error (c e : Int) (w : World) (hg : ErrT w) :
    Calls Tryz.prog 27 #[errV c, .int .i64 e] w fun r w' => r = .returned (.bool (c == e)) ∧ Below w.heap.size w w' := by
  have HC := Lib.hid (told_any c w hg)
  go_enter Tryz.func27, Tryz.ntmps27
  go_wp2_with fail
  refine HC.out.mono ?_
  rintro e w' ⟨rfl, hb⟩
  have HB := Lib.hid hb
  clear hb
  go_wp2
  go_ret
  exact ⟨rfl, HB.out⟩
end Go.Proofs.YtpfinfneclmjkaaGreatDoor
