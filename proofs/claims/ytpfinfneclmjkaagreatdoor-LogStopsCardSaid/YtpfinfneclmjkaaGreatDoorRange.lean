/- A range over a function whose iterator keeps its own cells. No condition. -/
import Derived.RangeFuncNested
import Derived.RangeFuncBound
import Derived.RangeFuncCalls
import Derived.RangeFuncLeaves
import Derived.WalkKit
import Derived.OwnWalkIn
import Derived.TacticsInMore
import Derived.LoopNIn
import Derived.LoopIn
import Derived.Test.YtpfinfneclmjkaaGreatDoorBase
namespace Go.Proofs.YtpfinfneclmjkaaGreatDoor
open Go.RowKit

/-- from block h on all that was there is as it was -/
structure High (h : Nat) (A B : World) : Prop where
  size : A.heap.size ≤ B.heap.size
  block : ∀ k, h ≤ k → k < A.heap.size → B.heap[k]? = A.heap[k]?
theorem High.refl (h : Nat) (A : World) : High h A A := ⟨Nat.le_refl _, fun _ _ _ => rfl⟩
theorem High.trans {h : Nat} {A B C : World} (x : High h A B) (y : High h B C) : High h A C :=
  ⟨Nat.le_trans x.size y.size, fun k h1 h2 => (y.block k h1 (Nat.lt_of_lt_of_le h2 x.size)).trans (x.block k h1 h2)⟩
theorem High.of_below {h : Nat} {A B : World} (x : Below A.heap.size A B) : High h A B := ⟨x.size, fun k _ h2 => x.block k h2⟩
theorem High.alloc {h : Nat} {A B : World} (x : High h A B) (o : Obj) : High h A (B.alloc o) := x.trans (.of_below ((Below.refl _ B).alloc (Nat.le_refl _) o))
theorem High.drew {h : Nat} {A B : World} (x : High h A B) : High h A B.drew := ⟨x.size, x.block⟩
theorem High.setCell {h : Nat} {A B : World} (x : High h A B) {p : Addr} (hp : p.block < h) (u : Value) : High h A (B.setCell p u) :=
  x.trans ⟨by simp [World.setCell], fun k h1 _ => Below.heap_setCell _ _ _ _ (by omega)⟩

/-- what it says hangs on what lies below h, and on the streams -/
def Stable {α : Type} (h : Nat) (I : List α → World → Prop) : Prop := ∀ s A B, I s A → Below h A B → I s B

/-- the iterator g, with lb captured, hands out lists of S -/
def SeqC {α : Type} (g : Nat) (lb : Array Value) (encs : α → Array Value) (S : List α → Prop) (w : World) : Prop :=
  ∀ (n l : Nat) (J Jx : List α → World → Prop) (W : World), Below w.heap.size w W → Stable W.heap.size J → Stable W.heap.size Jx →
    (∀ m pre x W1, J pre W1 → YieldAt Fence.wide m Tryz.prog l (encs x) W1 fun e W' =>
      (e = .returned (.bool true) ∧ J (pre ++ [x]) W' ∧ High W.heap.size W1 W') ∨ (e = .returned (.bool false) ∧ Jx (pre ++ [x]) W')) →
    J [] W →
    CallsIn Fence.wide n Tryz.prog g (#[.func (.yield l) #[] #[]] ++ lb) W fun e W' => (∃ v, e = .returned v) ∧ ((∃ xs, S xs ∧ J xs W') ∨ (∃ pre, (∃ rest, S (pre ++ rest)) ∧ Jx pre W'))

def postC {α : Type} (h : Nat) (I : List α → World → Prop) (Ix : Code → List α → World → Prop) (xs : List α) (W : World) : Exit → Act → World → Prop
  | .normal, _, W' => High h W W' ∧ I xs W'
  | .ret, _, W' => High h W W' ∧ Ix .ret xs W'
  | .exit id, _, W' => High h W W' ∧ Ix (.exit id) xs W'
  | .goto t, _, W' => High h W W' ∧ Ix (.goto t) xs W'
  | .panic _, _, _ => False
  | .outgrown, _, _ => False

/-- the world behind the record's turn -/
structure SameBut (l : Nat) (A B : World) : Prop where
  os : B.os = A.os
  tape : B.tape = A.tape
  output : B.output = A.output
  size : B.heap.size = A.heap.size
  block : ∀ k, k ≠ l → B.heap[k]? = A.heap[k]?
theorem sameBut_putObj (W : World) (l : Nat) (o : Obj) (hl : l < W.heap.size) : SameBut l W (W.putObj l o) :=
  ⟨rfl, rfl, rfl, by simp [World.putObj], fun k hk => World.putObj_heap_other (by omega)⟩
theorem size_putObj (W : World) (l : Nat) (o : Obj) : (W.putObj l o).heap.size = W.heap.size := by simp [World.putObj]
theorem SameBut.below {l h : Nat} {A B : World} (x : SameBut l A B) (hl : h ≤ l) : Below h A B :=
  ⟨x.os, x.tape, x.output, by rw [x.size]; exact Nat.le_refl _, fun k hk => x.block k (by omega)⟩

theorem wpIn_rangeC {α : Type} {n : Nat} {g : Operand} {ps : Array Tmp} {assign body : Code} {Q : Exit → Act → World → Prop} {a : Act} {w : World}
    {gf : Nat} {lb : Array Value} (hg : a.eval g = .func (.func gf) #[] lb) (eg : Enters gf)
    {encs : α → Array Value} {S : List α → Prop} {w0 : World} (hseq : SeqC gf lb encs S w0) (hb0 : Below w0.heap.size w0 w) (hps : ∀ x, (encs x).size = ps.size)
    (I : List α → World → Prop) (Ix : Code → List α → World → Prop) (hI : Stable w.heap.size I) (hIx : ∀ c, Stable w.heap.size (Ix c)) (h0 : I [] w)
    (hround : ∀ (m l : Nat) (pre : List α) (x : α) (W : World), w.heap.size ≤ l → l < W.heap.size → I pre W →
      assign.wpIn (Fence.wide.inRound l) m Tryz.prog (Exit.then (fun a1 W1 => High w.heap.size W W1 ∧ I pre W1 ∧
        ∀ W2, SameBut l W1 W2 → body.wpIn (Fence.wide.inRound l) m Tryz.prog (postC w.heap.size I Ix (pre ++ [x]) W2) a1 W2) (fun _ _ _ => False))
        { tmps := (ps.zip (encs x)).foldl (fun t (p, v) => t.setIfInBounds p v) a.tmps, defers := [] } W)
    (hdone : ∀ (xs : List α) (W : World), S xs → I xs W → W.heap[w.heap.size]? = some (.deferred (some [])) → Q .normal { a with defers := { target := .collected w.heap.size, args := #[] } :: a.defers } W)
    (hstop : ∀ (c : Code) (pre : List α) (W : World), (∃ rest, S (pre ++ rest)) → Ix c pre W → W.heap[w.heap.size]? = some (.deferred (some [])) → c.wpIn Fence.wide n Tryz.prog Q { a with defers := { target := .collected w.heap.size, args := #[] } :: a.defers } W) :
    (Code.rangeFunc g ps assign body).wpIn Fence.wide n Tryz.prog Q a w := by
  refine wpIn_rangeFunc ?_
  intro fn hfn
  obtain ⟨rec, hrec⟩ : ∃ rec : LoopState → Option Code → Loop, rec = fun st pe => { state := st, pending := pe, fn, tmps := a.tmps, params := ps, assign, body, defers := w.heap.size } := ⟨_, rfl⟩
  obtain ⟨W1, hW1⟩ : ∃ W1, (w.alloc (.deferred (some []))).alloc (.loop (rec .ready none)) = W1 := ⟨_, rfl⟩
  have hL1 : W1.heap[w.heap.size + 1]? = some (.loop (rec .ready none)) := by
    rw [← hW1]; have := World.alloc_heap_new (w.alloc (.deferred (some []))) (.loop (rec .ready none)); rwa [World.size_alloc] at this
  have hK1 : W1.heap[w.heap.size]? = some (.deferred (some [])) := by
    rw [← hW1]; exact (Below.heap_alloc _ _ _ (by simp)).trans (World.alloc_heap_new w _)
  have hbw : Below w.heap.size w W1 := by rw [← hW1]; exact ((Below.refl _ w).alloc (Nat.le_refl _) _).alloc (by simp) _
  have hI1 : I [] W1 := hI _ _ _ h0 hbw
  have hs1 : W1.heap.size = w.heap.size + 2 := by rw [← hW1]; simp
  refine ⟨w.heap.size + 1, [{ target := .collected w.heap.size, args := #[] }], W1, { target := .fn (.func gf) lb, args := #[.func (.yield (w.heap.size + 1)) #[] #[]] }, W1, gf,
    #[.func (.yield (w.heap.size + 1)) #[] #[]] ++ lb, W1, ?_, ?_, ?_, ?_, fun h => by simp [Fence.wide] at h, ?_⟩
  · rw [← hW1, hrec]; exact run_enterLoop_outer _ _ _ _ _
  · simp only [resolve, hg]
    simp [go_sem]
  · intro f' _; trivial
  · have e := eg; unfold Enters at e; simp [invoke, go_sem, e]
  · refine (hseq (n - 1) (w.heap.size + 1)
      (fun pre W => I pre W ∧ W.heap[w.heap.size + 1]? = some (.loop (rec .ready none)) ∧ W.heap[w.heap.size]? = some (.deferred (some [])))
      (fun pre W => ∃ c, Ix c pre W ∧ W.heap[w.heap.size + 1]? = some (.loop (rec .done (some c))) ∧ W.heap[w.heap.size]? = some (.deferred (some [])))
      W1 (hb0.trans (hbw.mono hb0.size))
      (fun s A B hs hb => ⟨hI s A B hs.1 (hb.mono (by omega)), (hb.block _ (by omega)).trans hs.2.1, (hb.block _ (by omega)).trans hs.2.2⟩)
      (fun s A B hs hb => by
        obtain ⟨c, hc, hl, hk⟩ := hs
        exact ⟨c, hIx c s A B hc (hb.mono (by omega)), (hb.block _ (by omega)).trans hl, (hb.block _ (by omega)).trans hk⟩)
      ?_ ⟨hI1, hL1, hK1⟩).mono ?_
    · rintro m pre x W ⟨hi, hl, hk⟩
      have hlt : w.heap.size + 1 < W.heap.size := (Array.getElem?_eq_some_iff.1 hl).1
      have hy := run_yield (P := Tryz.prog) (args := encs x) hl (by rw [hrec]; exact hps x)
      rw [hrec] at hy
      refine ⟨fn, _, assign, body, hy, roundIn_of_wpIn trivial (wpIn_mono (hround m (w.heap.size + 1) pre x W (by omega) hlt hi) ?_)⟩
      clear hy
      intro e a1 Wa hp
      cases e with
      | normal =>
        obtain ⟨hH, hIa, hbody⟩ := hp
        have hla : Wa.heap[w.heap.size + 1]? = some (.loop (rec .ready none)) := (hH.block _ (by omega) hlt).trans hl
        have hka : Wa.heap[w.heap.size]? = some (.deferred (some [])) := (hH.block _ (Nat.le_refl _) (by omega)).trans hk
        have hlta : w.heap.size + 1 < Wa.heap.size := (Array.getElem?_eq_some_iff.1 hla).1
        refine ⟨_, run_beginRound hla (by rw [hrec]), ?_⟩
        have hSB := sameBut_putObj Wa (w.heap.size + 1) (.loop { rec .ready none with state := .busy }) hlta
        have hl2 : (Wa.putObj (w.heap.size + 1) (.loop { rec .ready none with state := .busy })).heap[w.heap.size + 1]? = some (.loop { rec .ready none with state := .busy }) := World.putObj_heap_same hlta
        have hk2 : (Wa.putObj (w.heap.size + 1) (.loop { rec .ready none with state := .busy })).heap[w.heap.size]? = some (.deferred (some [])) := (World.putObj_heap_other (by omega)).trans hka
        refine wpIn_mono (hbody _ hSB) ?_
        have hsz2 := hSB.size
        have fin : ∀ (jump : Option Code) (W3 : World), High w.heap.size (Wa.putObj (w.heap.size + 1) (.loop { rec .ready none with state := .busy })) W3 →
            (Instr.endRound (w.heap.size + 1) jump).run Tryz.prog W3 = .ok (.bool jump.isNone) (W3.putObj (w.heap.size + 1) (.loop (rec (if jump.isNone then .ready else .done) jump))) ∧
            w.heap.size + 1 < W3.heap.size ∧
            (W3.putObj (w.heap.size + 1) (.loop (rec (if jump.isNone then .ready else .done) jump))).heap[w.heap.size + 1]? = some (.loop (rec (if jump.isNone then .ready else .done) jump)) ∧
            (W3.putObj (w.heap.size + 1) (.loop (rec (if jump.isNone then .ready else .done) jump))).heap[w.heap.size]? = some (.deferred (some [])) := fun jump W3 hk3 => by
          have hl3 := (hk3.block _ (by omega) (by omega)).trans hl2
          have := run_endRound (P := Tryz.prog) jump hl3
          rw [hrec] at this ⊢
          exact ⟨this, (Array.getElem?_eq_some_iff.1 hl3).1, World.putObj_heap_same (Array.getElem?_eq_some_iff.1 hl3).1, (World.putObj_heap_other (by omega)).trans ((hk3.block _ (Nat.le_refl _) (by omega)).trans hk2)⟩
        rintro e a3 W3 hp
        cases e with
        | normal =>
          obtain ⟨hk3, hi3⟩ := hp
          obtain ⟨hr, hlt3, hl4, hk4⟩ := fin none W3 hk3
          have hSB3 := sameBut_putObj W3 (w.heap.size + 1) (.loop (rec (if (none : Option Code).isNone = true then .ready else .done) none)) hlt3
          have hk3s : Wa.heap.size ≤ W3.heap.size := by have := hk3.size; rw [size_putObj] at this; exact this
          refine ⟨_, _, hr, .inl ⟨rfl, ⟨hI _ _ _ hi3 (hSB3.below (by omega)), hl4, hk4⟩, ?_⟩⟩
          have h1 : High W1.heap.size W Wa := ⟨hH.size, fun k h1 h2 => hH.block k (by omega) h2⟩
          have h2 : High W1.heap.size Wa W3 := ⟨hk3s, fun k h1 h2 => (hk3.block k (by omega) (by rw [size_putObj]; exact h2)).trans (hSB.block k (by omega))⟩
          exact (h1.trans h2).trans ⟨by rw [size_putObj]; exact Nat.le_refl _, fun k h1 _ => hSB3.block k (by omega)⟩
        | ret =>
          obtain ⟨hk3, hi3⟩ := hp
          obtain ⟨hr, hlt3, hl4, hk4⟩ := fin (some .ret) W3 hk3
          exact ⟨_, _, hr, .inr ⟨rfl, .ret, hIx _ _ _ _ hi3 ((sameBut_putObj W3 (w.heap.size + 1) _ hlt3).below (by omega)), hl4, hk4⟩⟩
        | exit id =>
          obtain ⟨hk3, hi3⟩ := hp
          obtain ⟨hr, hlt3, hl4, hk4⟩ := fin (some (.exit id)) W3 hk3
          exact ⟨_, _, hr, .inr ⟨rfl, .exit id, hIx _ _ _ _ hi3 ((sameBut_putObj W3 (w.heap.size + 1) _ hlt3).below (by omega)), hl4, hk4⟩⟩
        | goto t =>
          obtain ⟨hk3, hi3⟩ := hp
          obtain ⟨hr, hlt3, hl4, hk4⟩ := fin (some (.goto t)) W3 hk3
          exact ⟨_, _, hr, .inr ⟨rfl, .goto t, hIx _ _ _ _ hi3 ((sameBut_putObj W3 (w.heap.size + 1) _ hlt3).below (by omega)), hl4, hk4⟩⟩
        | panic ch => exact hp.elim
        | outgrown => exact hp.elim
      | _ => exact hp.elim
    · rintro e W2 ⟨⟨v, rfl⟩, (⟨xs, hS, hi, hl, hk⟩ | ⟨pre, hSp, c, hi, hl, hk⟩)⟩
      · have hlt : w.heap.size + 1 < W2.heap.size := (Array.getElem?_eq_some_iff.1 hl).1
        exact ⟨none, _, by have := run_endLoop (P := Tryz.prog) hl (by rw [hrec]; simp); rw [hrec] at this; exact this, hdone xs _ hS (hI _ _ _ hi ((sameBut_putObj W2 (w.heap.size + 1) _ hlt).below (by omega))) ((World.putObj_heap_other (by omega)).trans hk)⟩
      · have hlt : w.heap.size + 1 < W2.heap.size := (Array.getElem?_eq_some_iff.1 hl).1
        exact ⟨some c, _, by have := run_endLoop (P := Tryz.prog) hl (by rw [hrec]; simp); rw [hrec] at this; exact this, hstop c pre _ hSp (hIx c _ _ _ hi ((sameBut_putObj W2 (w.heap.size + 1) _ hlt).below (by omega))) ((World.putObj_heap_other (by omega)).trans hk)⟩
end Go.Proofs.YtpfinfneclmjkaaGreatDoor
