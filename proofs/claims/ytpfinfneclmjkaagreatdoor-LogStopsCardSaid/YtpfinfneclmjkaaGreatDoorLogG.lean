/- The log's state in one word: what was said, what was cut of a line, and what each call makes of it. Conditions: the log lies; the tables lie as their texts lay them. -/
import Derived.Test.YtpfinfneclmjkaaGreatDoorLogMore
import Derived.Test.YtpfinfneclmjkaaGreatDoorLogOpen
namespace Go.Proofs.YtpfinfneclmjkaaGreatDoor
open Go.RowKit V

theorem itoa_nl : ∀ k : Fin 41, (10 : UInt8) ∉ Lib.itoa ((k.val : Int) - 20) := by decide +kernel
theorem itoa_line (n : Int) (h0 : -20 ≤ n) (h1 : n ≤ 20) : (10 : UInt8) ∉ Lib.itoa n := by
  have := itoa_nl ⟨(n + 20).toNat, by omega⟩
  simp only at this
  rwa [show (((n + 20).toNat : Nat) : Int) - 20 = n by omega] at this
theorem kw_line (m : Nat) : (10 : UInt8) ∉ (kw m).data.toList := by
  unfold kw
  split <;> decide
theorem signB_line (s : Int) : signB s ≠ 10 := by
  unfold signB
  repeat' split
  all_goals decide
theorem term_line (t : List Int) : (10 : UInt8) ∉ (termText t).data.toList := by
  show (10 : UInt8) ∉ (t.map signB).toArray.toList
  rw [List.toList_toArray]
  intro h
  obtain ⟨s, _, h⟩ := List.mem_map.1 h
  exact signB_line s h
theorem tail_line (sep : List UInt8) (hs : (10 : UInt8) ∉ sep) : ∀ (xs : List (List UInt8)), (∀ x ∈ xs, (10 : UInt8) ∉ x) → (10 : UInt8) ∉ Lib.join xs sep
  | [], _ => by rw [Lib.join_nil]; simp
  | [x], h => by rw [Lib.join_one]; exact h x List.mem_cons_self
  | x :: y :: r, h => by
    have ih := tail_line sep hs (y :: r) fun z hz => h z (List.mem_cons_of_mem _ hz)
    have e : Lib.join (x :: y :: r) sep = x ++ (sep ++ Lib.join (y :: r) sep) := by simp [Lib.join, List.intercalate]
    rw [e]
    intro hm
    rcases List.mem_append.1 hm with hm | hm
    · exact h x List.mem_cons_self hm
    · rcases List.mem_append.1 hm with hm | hm
      · exact hs hm
      · exact ih hm
theorem atom_line {a : At} (h : atomCheck a = 0) : (10 : UInt8) ∉ (atomText a).data.toList := by
  have hA := atomCheck_ok h
  show (10 : UInt8) ∉ (Lib.join ((wordsOf a).map (·.data.toList)) [32]).toArray.toList
  rw [List.toList_toArray]
  refine tail_line _ (by decide) _ fun x hx => ?_
  obtain ⟨b, hb, rfl⟩ := List.mem_map.1 hx
  unfold wordsOf at hb
  have hi : (10 : UInt8) ∉ (⟨(Lib.itoa a.n).toArray⟩ : ByteArray).data.toList := by
    show (10 : UInt8) ∉ (Lib.itoa a.n).toArray.toList
    rw [List.toList_toArray]
    exact itoa_line a.n hA.n0 hA.n1
  rcases List.mem_append.1 hb with hb | hb
  · rcases List.mem_cons.1 hb with rfl | hb
    · exact kw_line _
    · rw [List.mem_singleton.1 hb]; exact term_line _
  · rcases List.mem_append.1 hb with hb | hb
    · split at hb
      · rw [List.mem_singleton.1 hb]; exact term_line _
      · simp at hb
    · split at hb
      · rw [List.mem_singleton.1 hb]; exact hi
      · simp at hb

theorem logIs_below {w w' : World} {b : Nat} {u : Int} {said : List Fm} {y : ByteArray} {s l : Int} {st : Bool} (h : LogIs w b u said y s l st) (hb : Below w.heap.size w w') : LogIs w' b u said y s l st := by
  obtain ⟨vs, h1, h2⟩ := h
  exact ⟨vs, h1.below hb h1.lt, h2.below hb⟩
theorem logIs_lt {w : World} {b : Nat} {u : Int} {said : List Fm} {y : ByteArray} {s l : Int} {st : Bool} (h : LogIs w b u said y s l st) : b < w.heap.size := by
  obtain ⟨vs, h1, h2⟩ := h
  exact h1.lt
/-- a line's bytes, as a list -/
def lineL (p : At × Bool) : List UInt8 := (lineB p.1 p.2).data.toList
theorem lineL_eq (p : At × Bool) : lineL p = (signL p.2).data.toList ++ ((atomText p.1).data.toList ++ [10]) := by
  unfold lineL lineB
  rw [ByteArray.data_append, ByteArray.data_append, Array.toList_append, Array.toList_append]
theorem lineL_line {p : At × Bool} (h : atomCheck p.1 = 0) : Line (lineL p) := by
  refine ⟨(signL p.2).data.toList ++ (atomText p.1).data.toList, by rw [lineL_eq, List.append_assoc], ?_⟩
  intro hm
  rcases List.mem_append.1 hm with hm | hm
  · revert hm
    unfold signL
    split <;> decide
  · exact atom_line h hm
theorem lineL_half {p : At × Bool} (h : atomCheck p.1 = 0) : (10 : UInt8) ∉ (lineL p).take ((lineL p).length / 2) := by
  obtain ⟨b, hb, hn⟩ := lineL_line h
  rw [hb]
  have h2 : (b ++ [10]).length / 2 ≤ b.length := by rw [List.length_append, List.length_singleton]; omega
  rw [List.take_append_of_le_length h2]
  exact fun hm => hn (List.mem_of_mem_take hm)
theorem lineL_size {p : At × Bool} (h : atomCheck p.1 = 0) : 2 ≤ (lineL p).length ∧ (lineL p).length ≤ 1002 := by
  have e : (lineL p).length = (lineB p.1 p.2).size := rfl
  have h1 := atomText_size h
  rw [e]
  unfold lineB signL
  split <;> rw [line_size] <;> omega

/-- the log in block b: what was said, and the part of a line that was cut -/
def LG (w : World) (b : Nat) (u : Int) (sd : List (At × Bool)) (part : List UInt8) (s l : Int) (st : Bool) : Prop :=
  ∃ y, LogIs w b u (sd.map fun p => aloneF p.1 p.2) y s l st ∧ BytesAre y (sd.map lineL) part ∧ 0 ≤ s ∧ s ≤ y.size ∧ sd.length ≤ 6 ∧ (∀ p ∈ sd, atomCheck p.1 = 0) ∧ part.length ≤ 1000 ∧ (st = false → part = [])
/-- how many bytes -/
def szOf (sd : List (At × Bool)) (part : List UInt8) : Nat := (sd.map lineL).flatten.length + part.length
theorem bytes_size {y : ByteArray} {ls : List (List UInt8)} {part : List UInt8} (h : BytesAre y ls part) : y.size = ls.flatten.length + part.length := by
  have := congrArg List.length h.1
  rw [List.length_append] at this
  exact this
theorem flat_size (sd : List (At × Bool)) (h : ∀ p ∈ sd, atomCheck p.1 = 0) : (sd.map lineL).flatten.length ≤ 1002 * sd.length := by
  induction sd with
  | nil => simp
  | cons p r ih =>
    have ih := ih fun q hq => h q (List.mem_cons_of_mem _ hq)
    have h1 := (lineL_size (h p List.mem_cons_self)).2
    rw [List.map_cons, List.flatten_cons, List.length_append, List.length_cons]
    omega
theorem LG.lt {w : World} {b : Nat} {u : Int} {sd : List (At × Bool)} {part : List UInt8} {s l : Int} {st : Bool} (h : LG w b u sd part s l st) : b < w.heap.size := by
  obtain ⟨y, h, _⟩ := h
  exact logIs_lt h
theorem LG.below {w w' : World} {b : Nat} {u : Int} {sd : List (At × Bool)} {part : List UInt8} {s l : Int} {st : Bool} (h : LG w b u sd part s l st) (hb : Below w.heap.size w w') : LG w' b u sd part s l st := by
  obtain ⟨y, h1, h2⟩ := h
  exact ⟨y, logIs_below h1 hb, h2⟩
theorem LG.small {w : World} {b : Nat} {u : Int} {sd : List (At × Bool)} {part : List UInt8} {s l : Int} {st : Bool} (h : LG w b u sd part s l st) : ∃ y, LogIs w b u (sd.map fun p => aloneF p.1 p.2) y s l st ∧ BytesAre y (sd.map lineL) part ∧ 0 ≤ s ∧ s ≤ y.size ∧ y.size ≤ 10000 ∧ y.size = szOf sd part := by
  obtain ⟨y, h1, h2, h3, h4, h5, h6, h7, _⟩ := h
  have := bytes_size h2
  have h8 := flat_size sd h6
  exact ⟨y, h1, h2, h3, h4, by omega, this⟩
theorem LG.forms {w : World} {b : Nat} {u : Int} {sd : List (At × Bool)} {part : List UInt8} {s l : Int} {st : Bool} (h : LG w b u sd part s l st) : ∀ f ∈ (sd.map fun p => aloneF p.1 p.2), formCheck f = 0 := by
  obtain ⟨y, h1, h2, h3, h4, h5, h6, _⟩ := h
  intro f hf
  obtain ⟨p, hp, rfl⟩ := List.mem_map.1 hf
  exact aloneF_check (h6 p hp) p.2

theorem newG (u : Int) (w : World) (hu : 0 ≤ u ∧ u ≤ 6) :
    Calls Tryz.prog 30 #[.int .i64 u] w fun e w' => ∃ b, e = .returned (.tuple #[.pointer (some ⟨b, 0, none⟩), .nilIface]) ∧ w.heap.size ≤ b ∧ LG w' b u [] [] 0 (-1) false ∧ Below w.heap.size w w' := by
  refine (new_any u w hu).mono ?_
  rintro e w' ⟨b, h1, h2, h3, h4⟩
  exact ⟨b, h1, h2, ⟨⟨#[]⟩, ⟨_, h3, .inl ⟨rfl, rfl⟩⟩, ⟨rfl, fun l hl => by simp at hl, by simp⟩, Int.le_refl _, Int.le_refl _, by simp, fun p hp => by simp at hp, by simp, fun _ => rfl⟩, h4⟩
theorem failG (b : Nat) (u : Int) (sd : List (At × Bool)) (part : List UInt8) (s l : Int) (st : Bool) (n : Int) (w : World) (h : LG w b u sd part s l st) :
    Calls Tryz.prog 41 #[.pointer (some ⟨b, 0, none⟩), .int .i64 n] w fun e w' => e = .returned (.tuple #[]) ∧ LG w' b u sd part s (max (-1) n) st ∧ w.grownBy w' (some b) := by
  obtain ⟨y, ⟨vs, h1, h2⟩, h3⟩ := h
  refine (fail_any b u vs y s l st n w h1).mono ?_
  rintro e w' ⟨e1, e2, e3⟩
  exact ⟨e1, ⟨y, ⟨vs, e2, h2.keep e3.size fun k hk hp => e3.block k hk (by simpa using hp)⟩, h3⟩, e3⟩
theorem bytesG (b : Nat) (u : Int) (sd : List (At × Bool)) (part : List UInt8) (s l : Int) (st : Bool) (w : World) (h : LG w b u sd part s l st) :
    Calls Tryz.prog 39 #[.pointer (some ⟨b, 0, none⟩)] w fun e w' => e = .returned (.int .i64 (szOf sd part)) ∧ w = w' := by
  obtain ⟨y, ⟨vs, h1, h2⟩, h3, h4⟩ := h
  have := bytes_any b u vs y s l st w h1
  rwa [bytes_size h3] at this
theorem safeG (b : Nat) (u : Int) (sd : List (At × Bool)) (part : List UInt8) (s l : Int) (st : Bool) (w : World) (h : LG w b u sd part s l st) :
    Calls Tryz.prog 40 #[.pointer (some ⟨b, 0, none⟩)] w fun e w' => e = .returned (.int .i64 s) ∧ w = w' := by
  obtain ⟨y, ⟨vs, h1, h2⟩, h3, h4⟩ := h
  exact safe_any b u vs y s l st w h1
theorem syncStopG (b : Nat) (u : Int) (sd : List (At × Bool)) (part : List UInt8) (s l : Int) (w : World) (h : LG w b u sd part s l true) :
    Calls Tryz.prog 32 #[.pointer (some ⟨b, 0, none⟩)] w fun e w' => e = .returned (errV 6) ∧ Below w.heap.size w w' := by
  obtain ⟨y, ⟨vs, h1, h2⟩, h3, h4⟩ := h
  exact sync_stopped b u vs y s l w h1
theorem syncG (b : Nat) (u : Int) (sd : List (At × Bool)) (s l : Int) (w : World) (h : LG w b u sd [] s l false) (hl : -1 ≤ l ∧ l ≤ 1000000000000) :
    Calls Tryz.prog 32 #[.pointer (some ⟨b, 0, none⟩)] w fun e w' => ((l = 0 ∧ e = .returned (errV 6) ∧ LG w' b u sd [] s (-1) true) ∨ (l ≠ 0 ∧ e = .returned .nilIface ∧ LG w' b u sd [] (szOf sd []) (max (-1) (l - 1)) false)) ∧ w.grownBy w' (some b) := by
  obtain ⟨y, ⟨vs, h1, h2⟩, h3, h4, h5, h6, h7, h8, h9⟩ := h
  refine (sync_any b u vs y s l w h1 hl).mono ?_
  rintro e w' ⟨h, hg⟩
  have hk : Fms (fun k => k ≠ b) w' vs (sd.map fun p => aloneF p.1 p.2) := h2.keep hg.size fun k hk hp => hg.block k hk (by simpa using hp)
  refine ⟨?_, hg⟩
  rcases h with ⟨e1, e2, e3⟩ | ⟨e1, e2, e3⟩
  · exact .inl ⟨e1, e2, y, ⟨vs, e3, hk⟩, h3, h4, h5, h6, h7, h8, fun _ => rfl⟩
  · have hsz := bytes_size h3
    rw [hsz] at e3
    exact .inr ⟨e1, e2, y, ⟨vs, e3, hk⟩, h3, Int.natCast_nonneg _, by rw [hsz]; exact Int.le_refl _, h6, h7, h8, fun _ => rfl⟩
theorem crashG (b : Nat) (u : Int) (sd : List (At × Bool)) (part : List UInt8) (s l : Int) (st : Bool) (keep : Int) (w : World) (h : LG w b u sd part s l st) :
    Calls Tryz.prog 33 #[.pointer (some ⟨b, 0, none⟩), .int .i64 keep] w fun e w' => e = .returned (.tuple #[]) ∧ w.grownBy w' (some b) ∧
      let sd' := sd.take (whole (sd.map fun p => (lineL p).length) (s + max 0 (min keep (szOf sd part - s))).toNat)
      LG w' b u sd' [] (szOf sd' []) (-1) false := by
  obtain ⟨y, ⟨vs, h1, h2⟩, h3, h4, h5, h6, h7, h8, h9⟩ := h
  have hsz := bytes_size h3
  have hfl := flat_size sd h7
  refine (crash_any b u vs y s l st _ keep w h1 h2 _ part h3 (by simp) ⟨h4, h5⟩ (by omega) (fun k hk => hk)).mono ?_
  rintro e w' ⟨e1, e2, e3⟩
  refine ⟨e1, e2, ?_⟩
  rw [hsz, List.map_map] at e3
  obtain ⟨vs', y', k1, k2, k3⟩ := e3
  have k4 := bytes_size k3
  rw [k4] at k1
  have em : ∀ n, (sd.take n).map lineL = (sd.map lineL).take n := fun n => List.map_take
  refine ⟨y', ⟨vs', ?_, ?_⟩, ?_, Int.natCast_nonneg _, ?_, ?_, fun p hp => h7 p (List.mem_of_mem_take hp), by simp, fun _ => rfl⟩
  · unfold szOf
    rw [em]
    exact k1
  · rw [List.map_take]; exact k2
  · rw [em]; exact k3
  · rw [k4]; unfold szOf; rw [em]; exact Int.le_refl _
  · rw [List.length_take]; omega
theorem sayStopG {P : Nat → Prop} (b : Nat) (u : Int) (sd : List (At × Bool)) (part : List UInt8) (s l : Int) (w : World) (h : LG w b u sd part s l true) (a : At) (va vt : Value) (hs : Ints P w va a.s) (ht : Ints P w vt a.t) (hold : Bool) :
    Calls Tryz.prog 31 #[.pointer (some ⟨b, 0, none⟩), .agg #[.int .i64 a.what, va, vt, .int .i64 a.n], .bool hold] w fun e w' => e = .returned (errV 6) ∧ Below w.heap.size w w' := by
  obtain ⟨y, ⟨vs, h1, h2⟩, h3⟩ := h
  exact say_stopped b u vs y s l w h1 a.what va vt a.n a.s a.t hs ht hold
theorem sayBadG {P : Nat → Prop} (b : Nat) (u : Int) (sd : List (At × Bool)) (part : List UInt8) (s l : Int) (w : World) (h : LG w b u sd part s l false) (a : At) (va vt : Value) (hs : Ints P w va a.s) (ht : Ints P w vt a.t) (hk : Kinds w) (hold : Bool) (hc : atomCheck a ≠ 0) :
    Calls Tryz.prog 31 #[.pointer (some ⟨b, 0, none⟩), .agg #[.int .i64 a.what, va, vt, .int .i64 a.n], .bool hold] w fun e w' => e = .returned (errV (atomCheck a)) ∧ Below w.heap.size w w' := by
  obtain ⟨y, ⟨vs, h1, h2⟩, h3⟩ := h
  exact say_bad b u vs y s l w h1 a va vt hs ht hk hold hc
theorem sayFullG {P : Nat → Prop} (b : Nat) (u : Int) (sd : List (At × Bool)) (part : List UInt8) (s l : Int) (w : World) (h : LG w b u sd part s l false) (a : At) (va vt : Value) (hs : Ints P w va a.s) (ht : Ints P w vt a.t) (hk : Kinds w) (hold : Bool) (hc : atomCheck a = 0) (h6 : 6 ≤ sd.length) :
    Calls Tryz.prog 31 #[.pointer (some ⟨b, 0, none⟩), .agg #[.int .i64 a.what, va, vt, .int .i64 a.n], .bool hold] w fun e w' => e = .returned (errV 4) ∧ Below w.heap.size w w' := by
  obtain ⟨y, ⟨vs, h1, h2⟩, h3⟩ := h
  obtain ⟨ao, cap, rfl⟩ := h2.form
  exact say_full b u ao _ cap y s l w h1 a va vt hs ht hk hold hc (by simpa using h6)
/-- a new atom that may be said -/
theorem sayG {P : Nat → Prop} (b : Nat) (u : Int) (sd : List (At × Bool)) (s l : Int) (w : World) (h : LG w b u sd [] s l false) (hn : sd.length < 6) (hu : 0 ≤ u ∧ u ≤ 6)
    (a : At) (va vt : Value) (hs : Ints P w va a.s) (ht : Ints P w vt a.t) (hk : Kinds w) (hold : Bool) (hc : atomCheck a = 0) (hp : PowTab w) (hkb : 0 < b) (hl : -1 ≤ l ∧ l ≤ 1000000000000) :
    Calls Tryz.prog 31 #[.pointer (some ⟨b, 0, none⟩), .agg #[.int .i64 a.what, va, vt, .int .i64 a.n], .bool hold] w fun e w' =>
      if someW ((sd ++ [(a, hold)]).map fun p => aloneF p.1 p.2) u then
        if l = 0 then ∃ part, e = .returned (errV 6) ∧ LG w' b u sd part s (-1) true ∧ w.grownBy w' (some b)
        else e = .returned .nilIface ∧ LG w' b u (sd ++ [(a, hold)]) [] s (max (-1) (l - 1)) false ∧ w.grownBy w' (some b)
      else e = .returned (errV 7) ∧ Below w.heap.size w w' := by
  have hf := h.forms
  obtain ⟨y, ⟨vs, h1, h2⟩, h3, h4, h5, h6, h7, h8, h9⟩ := h
  have hsz := bytes_size h3
  have hfl := flat_size sd h7
  refine (say_new b u vs y s l _ w h1 h2 hf (by simpa using hn) hu a va vt hs ht hk hold hc hp hkb hl (by rw [hsz, List.length_nil]; omega)).mono ?_
  intro e w' hS
  unfold SayNew at hS
  rw [List.map_append]
  show if someW (_ ++ [aloneF a hold]) u then _ else _
  split at hS
  · rename_i hsm
    rw [if_pos hsm]
    have hl2 := lineL_size (p := (a, hold)) hc
    split at hS
    · rename_i hl0
      rw [if_pos hl0]
      obtain ⟨e1, e2, e3⟩ := hS
      refine ⟨(lineL (a, hold)).take ((lineL (a, hold)).length / 2), e1, ⟨_, e2, ⟨?_, h3.2.1, lineL_half hc⟩, h4, ?_, h6, h7, ?_, fun h => by cases h⟩, e3⟩
      · rw [ByteArray.data_append, Array.toList_append, h3.1, List.append_nil]
        congr 1
        rw [ByteArray.data_extract]
        show ((lineB a hold).data.extract 0 ((lineB a hold).size / 2)).toList = (lineB a hold).data.toList.take ((lineB a hold).data.toList.length / 2)
        generalize lineB a hold = x
        rw [Array.toList_extract, List.extract_eq_take_drop]
        rfl
      · rw [ByteArray.size_append]; omega
      · rw [List.length_take]; omega
    · rename_i hl0
      rw [if_neg hl0]
      obtain ⟨e1, e2, e3⟩ := hS
      refine ⟨e1, ⟨y ++ lineB a hold, by rw [List.map_append]; exact e2, ⟨?_, ?_, List.not_mem_nil⟩, h4, ?_, ?_, ?_, Nat.zero_le _, fun _ => rfl⟩, e3⟩
      · rw [ByteArray.data_append, Array.toList_append, h3.1, List.map_append, List.flatten_append]
        simp [lineL]
      · intro l hl
        rw [List.map_append] at hl
        rcases List.mem_append.1 hl with hl | hl
        · exact h3.2.1 l hl
        · rw [List.mem_singleton.1 hl]; exact lineL_line (p := (a, hold)) hc
      · rw [ByteArray.size_append]; omega
      · rw [List.length_append, List.length_singleton]; omega
      · intro p hp
        rcases List.mem_append.1 hp with hp | hp
        · exact h7 p hp
        · rw [List.mem_singleton.1 hp]; exact hc
  · rename_i hsm
    rw [if_neg hsm]
    exact hS
theorem allG (b : Nat) (u : Int) (sd : List (At × Bool)) (part : List UInt8) (s l : Int) (st : Bool) (w : World) (h : LG w b u sd part s l st) :
    Calls Tryz.prog 34 #[.pointer (some ⟨b, 0, none⟩)] w fun e w' => ∃ v, e = .returned v ∧ OwnF w.heap.size (fun k => w.heap.size ≤ k) w' v (sd.map fun p => aloneF p.1 p.2) ∧ Below w.heap.size w w' := by
  have hf := h.forms
  obtain ⟨y, ⟨vs, h1, h2⟩, h3, h4, h5, h6, h7⟩ := h
  exact logAll_any b u vs y s l st _ w h1 h2 hf (by simp; omega)
theorem openG (b : Nat) (u : Int) (sd : List (At × Bool)) (part : List UInt8) (s l : Int) (st : Bool) (w : World) (h : LG w b u sd part s l st) (hk : Kinds w) (hu : 0 ≤ u ∧ u ≤ 6) :
    Calls Tryz.prog 35 #[.pointer (some ⟨b, 0, none⟩)] w fun e w' => e = .returned (.bool (someW (sd.map fun p => aloneF p.1 p.2) u)) ∧ Below w.heap.size w w' := by
  have hf := h.forms
  obtain ⟨y, ⟨vs, h1, h2⟩, h3, h4, h5, h6, h7⟩ := h
  exact logOpen_any b u vs y s l st _ w h1 h2 hf hk hu
end Go.Proofs.YtpfinfneclmjkaaGreatDoor
