/- From a row's listed variables to the facts of the walks: the tables of the kinds and of the powers, the variable of the error type. No condition. -/
import Derived.Test.YtpfinfneclmjkaaGreatDoorAtomText
import Derived.Test.YtpfinfneclmjkaaGreatDoorTold
import Derived.OpenShut
import Derived.Lib.LaidTab
import Derived.Lib.SmallJoins
import Derived.Deep.Strs
import Derived.LaidHandle
import Derived.LaidLaws
import GoSem.ClaimJoined
namespace Go.Proofs.YtpfinfneclmjkaaGreatDoor
open Go.RowKit Go.ChangeShapes V

theorem gKinds : Tryz.prog.globalNamed "vennhouse/atom.kinds" = some 0 := by kernel_rfl
theorem gKindsType : (Tryz.prog.globals[0]?).map (·.type) = some 190 := by kernel_rfl
theorem gPowType : (Tryz.prog.globals[5]?).map (·.type) = some 322 := by kernel_rfl
theorem cellsKinds : Tryz.prog.cellsOf 190 = 18 := by kernel_rfl
theorem cellsKind : Tryz.prog.cellsOf 189 = 3 := by kernel_rfl
theorem cellsStr : Tryz.prog.cellsOf 9 = 1 := by kernel_rfl
theorem cellsBool : Tryz.prog.cellsOf 4 = 1 := by kernel_rfl
theorem cellsU64 : Tryz.prog.cellsOf 277 = 1 := by kernel_rfl
theorem cellsPow : Tryz.prog.cellsOf 322 = 20 := by kernel_rfl

/-- the datum of the kinds' table -/
def kindD {H : Type} (s : List UInt8) (t n : Bool) : DataW H := .agg [.lit (.string s), .lit (.bool t), .lit (.bool n)]
def kindsL {H : Type} : List (DataW H) := [kindD [] false false, kindD [115, 117, 98] true false, kindD [115, 97, 109, 101] true false, kindD [108, 101, 97, 115, 116] false true, kindD [109, 111, 115, 116] false true, kindD [110, 111, 109, 111, 114, 101] true true]

theorem kind_cells {H : Type} {enc : TypeId × Value → H} {w : World} {base : Nat} {sp : Nat → Bool} {held : Bool} {n : Nat} {cs : List Value} {x : DataW H × List MemPlace} {s : List UInt8} {t u : Bool}
    (h : DataW.trod enc Tryz.prog w base sp held n 189 cs = some x) (hx : x.1 = kindD s t u) : cs[0]? = some (.string ⟨s.toArray⟩) ∧ cs[1]? = some (.bool t) ∧ cs[2]? = some (.bool u) := by
  obtain ⟨y0, y1, y2, m, rfl, _, h0, h1, h2⟩ := Deep.trod_struct3 Tryz.underlying189 h
  simp only [kindD, DataW.agg.injEq, List.cons.injEq, and_true] at hx
  obtain ⟨e0, e1, e2⟩ := hx
  obtain ⟨z0, q0, rfl, _⟩ := DataW.trod_string Tryz.underlying9 h0
  obtain ⟨z1, q1, rfl⟩ := DataW.trod_bool Tryz.underlying4 h1
  obtain ⟨z2, q2, rfl⟩ := DataW.trod_bool Tryz.underlying4 h2
  simp only [DataW.lit.injEq, Lit.string.injEq, Lit.bool.injEq] at e0 e1 e2
  subst e1 e2
  simp only [cellsStr, cellsBool] at q0 q1 q2
  refine ⟨?_, ?_, ?_⟩
  · have := congrArg (·[0]?) q0
    rw [← e0]
    simpa [List.getElem?_take, List.getElem?_drop] using this
  · have := congrArg (·[0]?) q1
    simpa [List.getElem?_take, List.getElem?_drop] using this
  · have := congrArg (·[0]?) q2
    simpa [List.getElem?_take, List.getElem?_drop] using this
theorem kinds_cells {H : Type} {enc : TypeId × Value → H} {w : World} {base : Nat} {sp : Nat → Bool} {held : Bool} {n : Nat} {cs : List Value} {p : List MemPlace}
    (h : DataW.trod enc Tryz.prog w base sp held n 190 cs = some (.agg kindsL, p)) (m : Nat) (hm : m < 6) : cs[m * 3]? = some (.string (kw m)) ∧ cs[m * 3 + 1]? = some (.bool (kt m)) ∧ cs[m * 3 + 2]? = some (.bool (kn m)) := by
  obtain ⟨xs, f, _, hx, hl, h6, hat⟩ := DataW.trod_array Tryz.underlying190 h
  have hx1 : xs.map (·.1) = kindsL := by
    have := congrArg Prod.fst hx
    simp only [DataW.agg.injEq] at this
    exact this.symm
  rw [cellsKind] at hat
  obtain ⟨y, hy⟩ : ∃ y, xs[m]? = some y := ⟨xs[m]'(by omega), List.getElem?_eq_getElem (by omega)⟩
  have hk := hat m hm
  rw [hy] at hk
  have hy1 : (xs.map (·.1))[m]? = some y.1 := by simp [hy]
  rw [hx1] at hy1
  have key : ∀ s t u, (kindsL : List (DataW H))[m]? = some (kindD s t u) → kw m = ⟨s.toArray⟩ → kt m = t → kn m = u → cs[m * 3]? = some (.string (kw m)) ∧ cs[m * 3 + 1]? = some (.bool (kt m)) ∧ cs[m * 3 + 2]? = some (.bool (kn m)) := by
    intro s t u e1 e2 e3 e4
    rw [e1] at hy1
    obtain ⟨r0, r1, r2⟩ := kind_cells hk (Option.some.inj hy1).symm
    rw [e2, e3, e4]
    simp only [List.getElem?_take, List.getElem?_drop] at r0 r1 r2
    exact ⟨by simpa using r0, by simpa using r1, by simpa using r2⟩
  match m, hm with
  | 0, _ => exact key [] false false rfl rfl rfl rfl
  | 1, _ => exact key _ _ _ rfl rfl rfl rfl
  | 2, _ => exact key _ _ _ rfl rfl rfl rfl
  | 3, _ => exact key _ _ _ rfl rfl rfl rfl
  | 4, _ => exact key _ _ _ rfl rfl rfl rfl
  | 5, _ => exact key _ _ _ rfl rfl rfl rfl

/-- a variable of the list, by its place -/
theorem laid_at {W : World} {n : String} {d : DataW Unit} : ∀ {l : List (String × DataW Unit)} {ps : List MemPlace}, DataW.LaidVars Tryz.prog W l ps → (n, d) ∈ l →
    ∃ g t cs fuel p, Tryz.prog.globalNamed n = some g ∧ (Tryz.prog.globals[g]?).map (·.type) = some t ∧ W.var? Tryz.prog n = some cs ∧ DataW.trod (fun _ => ()) Tryz.prog W 0 (fun _ => true) false fuel t cs.toList = some (d, p)
  | (m, e) :: r, ps, h, hm => by
    obtain ⟨g, t, cs, fuel, p, q, h1, h2, h3, h4, h5, _⟩ := h
    rcases List.mem_cons.1 hm with e' | hm
    · cases e'; exact ⟨g, t, cs, fuel, p, h1, h2, h3, h4⟩
    · exact laid_at h5 hm
theorem kinds_of {W : World} {l : List (String × DataW Unit)} (h : laidMet Tryz.prog l W) (hm : ("vennhouse/atom.kinds", .agg kindsL) ∈ l) : Kinds W := by
  obtain ⟨ps, h, _⟩ := h
  obtain ⟨g, t, cs, fuel, p, h1, h2, h3, h4⟩ := laid_at h hm
  obtain rfl := Option.some.inj (gKinds.symm.trans h1)
  obtain rfl := Option.some.inj (gKindsType.symm.trans h2)
  intro m hm6
  obtain ⟨r0, r1, r2⟩ := kinds_cells h4 m hm6
  refine ⟨?_, ?_, ?_⟩
  · rw [World.var?_cell gKinds h3]; simpa using r0
  · rw [World.var?_cell gKinds h3]; simpa using r1
  · rw [World.var?_cell gKinds h3]; simpa using r2
theorem pow_of {W : World} {l : List (String × DataW Unit)} (h : laidMet Tryz.prog l W) (hm : ("internal/strconv.uint64pow10", Lib.tabData .u64 Lib.pow10Tab) ∈ l) : PowTab W := by
  obtain ⟨ps, h, _⟩ := h
  obtain ⟨g, t, cs, fuel, p, h1, h2, h3, h4⟩ := laid_at h hm
  obtain rfl := Option.some.inj (gPow.symm.trans h1)
  obtain rfl := Option.some.inj (gPowType.symm.trans h2)
  have ht : Lib.TabIs Tryz.prog W "internal/strconv.uint64pow10" .u64 Lib.pow10Tab := by
    unfold Lib.TabIs
    rw [h3, ← Lib.cells_of_tab Tryz.underlying322 Tryz.underlying277 cellsU64 cellsPow h4]
  exact ⟨ht, World.block_lt_of_cell? W _ (ht.cell gPow 0 (by decide))⟩

theorem rtRow : (Tryz.prog.cutTypes.find? (·.1 == "internal/reflectlite.rtype")).map (·.2) = some 281 := by kernel_rfl
theorem errRow : ((List.range Tryz.prog.types.size).filter fun t => Tryz.prog.rowNamed t [101, 114, 114, 111, 114]) = [29] := by kernel_rfl
theorem gErrT : Tryz.prog.globalNamed "errors.errorType" = some 2 := by kernel_rfl
theorem errHandle : typeHandle Tryz.prog 29 = .pointer (some ⟨12, 29, none⟩) := by kernel_rfl
theorem errT_of {W : World} {l : List (String × DataW Unit)} (h : handlesMet Tryz.prog l W) (hm : ("errors.errorType", .iface "internal/reflectlite.rtype" (.agg [.ptr (.lit (.string [101, 114, 114, 111, 114]))])) ∈ l) : ErrT W := by
  obtain ⟨name, u, ty, e1, e2, e3, e4, e5⟩ := h _ hm
  have en : name = [101, 114, 114, 111, 114] := (Option.some.inj e1).symm
  subst en
  obtain rfl := Option.some.inj (rtRow.symm.trans e2)
  have hmm : ty ∈ (List.range Tryz.prog.types.size).filter fun t => Tryz.prog.rowNamed t [101, 114, 114, 111, 114] := List.mem_filter.2 ⟨List.mem_range.2 e3, e4⟩
  rw [errRow] at hmm
  obtain rfl := List.mem_singleton.1 hmm
  rw [errHandle] at e5
  unfold ErrT
  simpa using World.var?_cell gErrT e5 0
end Go.Proofs.YtpfinfneclmjkaaGreatDoor
