/- Arguments as they come in: lists of ints, atoms; what a law's row asks behind the call. No condition. -/
import Derived.Test.YtpfinfneclmjkaaGreatDoorData
import Derived.OpenShut
import Derived.ProofKit
import Derived.Lib.SmallJoins
import Derived.ChangeSame
import Derived.Carry
import Derived.Below
namespace Go.Proofs.YtpfinfneclmjkaaGreatDoor
open Go.RowKit Go.ChangeShapes Go.WideShapes Go.ChangeAt V

theorem cellsInt : Tryz.prog.cellsOf 3 = 1 := by kernel_rfl
theorem cellsAtom : Tryz.prog.cellsOf 50 = 4 := by kernel_rfl
theorem laidOut : laidOutB Tryz.prog = true := by kernel_rfl

/-- a slice of ints that came in -/
theorem ints_in {H : Type} {enc : TypeId × Value → H} {W : World} {fuel : Nat} {v : Value} {x : DataW H × List MemPlace} (h : DataW.trod enc Tryz.prog W 0 (fun _ => true) true fuel 23 [v] = some x) : ∃ l, Ints (fun _ => True) W v l := by
  rcases open_ints Tryz.underlying23 Tryz.underlying3 cellsInt h with ⟨hcs, _⟩ | ⟨a, len, cap, zs, hcs, _, hl, hm, hz, _, hcell, _⟩
  · obtain rfl : v = .slice none 0 0 := by simpa using hcs
    exact ⟨[], .inl ⟨none, rfl, rfl⟩⟩
  · obtain rfl : v = .slice (some a) len cap := by simpa using hcs
    simp only [if_true] at hz
    by_cases hc : cap = 0
    · obtain rfl : len = 0 := by omega
      subst hc
      exact ⟨[], .inl ⟨some a, rfl, rfl⟩⟩
    · have h0 := hcell 0 (by omega)
      have hsp := World.cell?_spot h0
      have hlt := World.block_lt_of_cell? W _ h0
      obtain ⟨b, off, sp⟩ := a
      simp only [Addr.add] at hsp hlt
      have hs : sp = none := by
        cases sp with
        | none => rfl
        | some s => simp [Addr.add] at hsp
      subst hs
      have hlen : (zs.take len).length = len := by simp; omega
      refine ⟨zs.take len, .inr ⟨b, off, cap, by rw [hlen], by omega, hm, trivial, by simpa using hlt, fun i hi => ?_⟩⟩
      rw [hlen] at hi
      have := hcell i (by omega)
      rw [Addr.add_lit] at this
      rw [this]
      simp [List.getD_eq_getElem?_getD, show i < zs.length by omega]

set_option maxRecDepth 100000 in
/-- an atom that came in -/
theorem atom_in {H : Type} {enc : TypeId × Value → H} {W : World} {base : Nat} {v : Value} {d : DataW H} {p : List MemPlace} (hv : Value.okWide Tryz.prog W .any base 50 v) (h : DataW.Trod enc Tryz.prog W 0 (fun _ => true) true 50 v d p) :
    ∃ (a : At) (vs vt : Value), v = .agg #[.int .i64 a.what, vs, vt, .int .i64 a.n] ∧ Ints (fun _ => True) W vs a.s ∧ Ints (fun _ => True) W vt a.t := by
  obtain ⟨v0, v1, v2, v3, y0, y1, y2, y3, n, rfl, _, _, h0, h1, h2, h3⟩ := Joins.open_agg4 Tryz.underlying50 (by kernel_rfl) cellsAtom hv h
  obtain ⟨m, e0, _, _⟩ := DataW.trod_int Tryz.underlying3 h0
  obtain ⟨k, e3, _, _⟩ := DataW.trod_int Tryz.underlying3 h3
  obtain ⟨ls, i1⟩ := ints_in h1
  obtain ⟨lt, i2⟩ := ints_in h2
  obtain rfl : v0 = .int .i64 m := by simpa using e0
  obtain rfl : v3 = .int .i64 k := by simpa using e3
  exact ⟨⟨m, ls, lt, k⟩, v1, v2, rfl, i1, i2⟩

section
variable {H : Type} {enc : TypeId × Value → H}
/-- what stays below the heap reads as it did -/
theorem trodAll_stays {W W' : World} (hb : Below W.heap.size W W') {sp : Nat → Bool} {ts : List TypeId} (ht : ∀ t ∈ ts, Tryz.prog.readableRec t = true ∧ t < Tryz.prog.types.size) : ∀ {vs : List Value} {ds : List (DataW H)} {ps : List MemPlace},
    DataW.TrodAll enc Tryz.prog W 0 (fun _ => true) true ts vs ds ps → (∀ x ∈ ps, x.block < W.heap.size ∧ sp x.block = true) → DataW.TrodAll enc Tryz.prog W' 0 sp true ts vs ds ps := by
  induction ts with
  | nil =>
    intro vs ds ps h _
    obtain ⟨h1, h2, h3⟩ := trodAll_nil h
    rw [h1, h2, h3]
    exact trodAll_mk0
  | cons t ts ih =>
    intro vs ds ps h hp
    obtain ⟨v, vs', d, ds', p, q, h1, h2, h3, h4, h5⟩ := trodAll_cons h
    rw [h3] at hp
    have h6 := ih (fun x hx => ht x (List.mem_cons_of_mem _ hx)) h5 fun x hx => hp x (List.mem_append.2 (.inr hx))
    have h0 := ht t List.mem_cons_self
    rw [h1, h2, h3]
    exact trodAll_cons_mk (WideElems.Trod_stays laidOut h0.1 h0.2 h4 (fun x hx => hb.same (hp x (List.mem_append.2 (.inl hx))).1) (fun x hx => (hp x (List.mem_append.2 (.inl hx))).2)) h6

set_option maxRecDepth 100000 in
/-- a law that returned true, and left what lay below the heap alone: what its row asks -/
theorem law_post {f : Func} {s : ChangeSpec} {apart fresh handsOn again : Bool} {W W' : World} {args : Array Value} {ds gs : List (DataW H)} {before : List MemPlace}
    (hW : DataW.Whole enc Tryz.prog f.params.toList s.vars apart W args.toList ds gs before) (hvars : s.vars = []) (hfn : (s.fn H (ds ++ gs)).results = [.lit (.bool true)] ∧ (s.fn H (ds ++ gs)).args = ds ∧ (s.fn H (ds ++ gs)).vars = [])
    (hres : f.resultTypes = #[4]) (hts : ∀ t ∈ f.params.toList, Tryz.prog.readableRec t = true ∧ t < Tryz.prog.types.size) (hb : Below W.heap.size W W') :
    s.post enc Tryz.prog f apart fresh handsOn again W args (.bool true) W' := by
  have hW0 := hW
  have hlt : ∀ p ∈ before, p.block < W.heap.size := fun p hp => hW.lt p hp
  have hold : ∀ p ∈ before, (fun b => decide (b < W.heap.size)) p.block = true := fun p hp => by simpa using hlt p hp
  obtain ⟨p, q, hA, hV, rfl, hz, hn⟩ := hW
  rw [hvars] at hV
  obtain ⟨rfl, rfl⟩ := trodVars_none hV
  simp only [List.append_nil] at *
  have hrl : (Value.bool true).resultList f.resultTypes.size = [.bool true] := by rw [hres]; rfl
  have hrs : ∀ (b : Nat) (sp : Nat → Bool) (hd : Bool), DataW.TrodAll enc Tryz.prog W' b sp hd f.resultTypes.toList ((Value.bool true).resultList f.resultTypes.size) (s.fn H ds).results [] := fun b sp hd => by
    rw [hrl, hfn.1, hres]; exact trodAll_cons_mk (shut_bool Tryz.underlying4 _) trodAll_mk0
  have hargs : ∀ sp : Nat → Bool, (∀ x ∈ p, sp x.block = true) → DataW.TrodAll enc Tryz.prog W' 0 sp true f.params.toList args.toList (s.fn H ds).args p := fun sp hsp => by
    rw [hfn.2.1]; exact trodAll_stays hb hts hA fun x hx => ⟨hlt x hx, hsp x hx⟩
  have hvs : ∀ sp : Nat → Bool, DataW.TrodVars enc Tryz.prog W' sp s.vars (s.fn H ds).vars [] := fun sp => by rw [hvars, hfn.2.2]; rfl
  refine ⟨ds, [], p, [], p, [], by simpa using hW0, by simpa using hrs _ _ _, by simpa using hargs _ hold, by simpa using hvs _, World.keptBut_mono (fun x hx => ⟨hx, ?_⟩) (hb.frame (· ∈ p)), fun _ => ?_⟩
  · exact Or.inr (Or.inl hx)
  · refine ⟨?_, _, _, ([] ++ p) ++ [], ⟨[] ++ p, [], trodAll_append (hargs _ (fun _ _ => rfl)) (hrs _ _ _), hvs _, rfl, ?_, ?_⟩, ?_⟩
    · intro j t r ht hr
      rw [hres] at ht
      rw [hrl] at hr
      match j, ht, hr with
      | 0, ht, hr =>
        obtain rfl := Option.some.inj ht
        obtain rfl := Option.some.inj hr
        exact okWide_bool_mk Tryz.underlying4 _
      | j + 1, ht, hr => cases ht
    · intro b off hp
      have hin : MemPlace.cell b off ∈ p := by simpa using hp
      rw [hb.frozen (hlt _ hin)]
      exact hz b off hin
    · intro ha
      have := hn ha
      simpa using this
    · intro x hx _
      simpa using hx
end
end Go.Proofs.YtpfinfneclmjkaaGreatDoor
