/- Symbolic execution, part b: operations that read, and calls. -/
import Derived.Test.YtcckofgleghbgaaDoorSxa
namespace Go.Proofs.YtcckofgleghbgaaDoor.Sx
open Go

/-- A value that is there where c is true, and is nothing else. -/
@[irreducible] def lzv (c : Bool) (v : Value) : Value := if c then v else undef
theorem lzv_true (v : Value) : lzv true v = v := by simp [lzv]
theorem lzv_false (v : Value) : lzv false v = undef := by simp [lzv]

/-- Under A: the operand is v. -/
def Val (E : Env) (A : Bool) (x : Operand) (v : Value) : Prop := A = true → ∀ n a, EnvOk n E a → a.eval x = v
section
variable {E : Env} {A C D : Bool} {x : Operand} {v : Value}
theorem Val.of (h : oev E x = some v) : Val E A x v := fun _ _ _ ha => ha.eval h
theorem Val.lz (h : oev E x = some (lzv A v)) : Val E A x v := fun hA _ _ ha => by rw [ha.eval h, hA, lzv_true]
theorem Val.lzAnd (h : oev E x = some (lzv A v)) : Val E (A && D) x v := fun hA _ _ ha => by rw [ha.eval h, (Bool.and_eq_true_iff.1 hA).1, lzv_true]
theorem Val.lzAnd2 (h : oev E x = some (lzv A v)) : Val E (A && C && D) x v := fun hA _ _ ha => by
  rw [ha.eval h, (Bool.and_eq_true_iff.1 (Bool.and_eq_true_iff.1 hA).1).1, lzv_true]
end

/-- A list of operands. -/
inductive Vals (E : Env) (A : Bool) : List Operand → List Value → Prop
  | nil : Vals E A [] []
  | cons {x : Operand} {v : Value} {xs : List Operand} {vs : List Value} (h : Val E A x v) (t : Vals E A xs vs) : Vals E A (x :: xs) (v :: vs)
theorem Vals.map {E : Env} {A : Bool} {xs : List Operand} {vs : List Value} (hv : Vals E A xs vs) (hA : A = true) {n : Nat} {a : Act} (ha : EnvOk n E a) : xs.map a.eval = vs := by
  induction hv with
  | nil => rfl
  | cons h _ ih => simp [h hA _ _ ha, ih]

/-! ### Facts on the program's types, by number -/
class Under (P : Program) (t : TypeId) (d : outParam TypeDesc) : Prop where
  out : P.underlying t = some d
class SizeIs (P : Program) (t : TypeId) (s : outParam Nat) : Prop where
  out : ∃ i, P.info? t = some i ∧ i.size = s
class BytesIs (P : Program) (t : TypeId) (s : outParam Nat) : Prop where
  out : ∃ i, P.info? t = some i ∧ i.bytes = s
class ZeroIs (P : Program) (t : TypeId) (z : outParam Value) : Prop where
  out : ∃ i, P.info? t = some i ∧ i.zero = some z
/-- A type whose values are one cell. -/
class OneCell (P : Program) (t : TypeId) : Prop where
  out : ∃ d, P.underlying t = some d ∧ (match d with | .struct _ | .array _ _ => false | _ => true) = true
/-- A struct (or an array) of so many cells. -/
class ManyCells (P : Program) (t : TypeId) (s : outParam Nat) : Prop where
  under : ∃ d, P.underlying t = some d ∧ (match d with | .struct _ | .array _ _ => true | _ => false) = true
  size : ∃ i, P.info? t = some i ∧ i.size = s
/-- The place of a field. -/
class FieldIs (P : Program) (t : TypeId) (f : Nat) (off : outParam Nat) : Prop where
  out : ∃ fs fd i, P.underlying t = some (.struct fs) ∧ fs[f]? = some fd ∧ fd.offset = off ∧ P.info? fd.type = some i ∧ i.size ≠ 0

/-! ### Memory that is read -/
def GH.cell (h : GH) (b o : Nat) : Option Value := match h b with | some (.cells c _ _) => c[o]? | _ => none
/-- The cells from o on are these. -/
def Cells (h : GH) (b o : Nat) (vs : List Value) : Prop := ∀ i v, vs[i]? = some v → h.cell b (o + i) = some v
theorem GH.cell_mono {h h' : GH} (hl : GH.le h h') {b o : Nat} {v : Value} (hc : h.cell b o = some v) : h'.cell b o = some v := by
  unfold GH.cell at *
  split at hc
  · rename_i hb; rw [hl _ _ hb]; exact hc
  · cases hc
theorem Cells.mono {h h' : GH} (hl : GH.le h h') {b o : Nat} {vs : List Value} (hc : Cells h b o vs) : Cells h' b o vs := fun i v hi => GH.cell_mono hl (hc i v hi)

/-- A cell that may be read: of the ghost heap, or of an owned block. -/
def Reads (h : GH) (L : Own) (b o : Nat) (v : Value) : Prop := h.cell b o = some v ∨ ∃ c T fz, (b, Obj.cells c T fz) ∈ L ∧ c[o]? = some v
theorem Reads.cell {B : Base} {h : GH} {L : Own} {w : World} (s : Step B h L w) {b o : Nat} {v : Value} (hr : Reads h L b o v) : w.cell? ⟨b, o, none⟩ = some v := by
  rcases hr with hr | ⟨c, T, fz, hm, hc⟩
  · unfold GH.cell at hr
    split at hr
    · rename_i hb; simp [World.cell?, s.sub _ _ hb, hr]
    · cases hr
  · have := s.own _ hm
    simp only at this
    simp [World.cell?, this, hc]
def ReadsAll (h : GH) (L : Own) (b o : Nat) (vs : List Value) : Prop := ∀ i v, vs[i]? = some v → Reads h L b (o + i) v
theorem ReadsAll.ghost {h : GH} {L : Own} {b o : Nat} {vs : List Value} (hc : Cells h b o vs) : ReadsAll h L b o vs := fun i v hi => .inl (hc i v hi)
def takeCells : List Value → Nat → Nat → Option (List Value)
  | _, _, 0 => some []
  | c, o, s + 1 => match c[o]?, takeCells c (o + 1) s with | some v, some vs => some (v :: vs) | _, _ => none
theorem takeCells_spec {c : List Value} : ∀ {s o : Nat} {vs : List Value}, takeCells c o s = some vs → vs.length = s ∧ ∀ i v, vs[i]? = some v → c[o + i]? = some v := by
  intro s
  induction s with
  | zero => intro o vs h; cases h; exact ⟨rfl, fun i v hv => by simp at hv⟩
  | succ s ih =>
    intro o vs h
    unfold takeCells at h
    split at h
    · rename_i v vs' h1 h2
      cases h
      obtain ⟨i1, i2⟩ := ih h2
      refine ⟨by simp [i1], fun i u hu => ?_⟩
      cases i with
      | zero => simp at hu; subst hu; exact h1
      | succ i => simp at hu; have := i2 i u hu; rw [show o + (i + 1) = o + 1 + i by omega]; exact this
    · cases h
theorem ReadsAll.owned {h : GH} {L : Own} {b o s : Nat} {c : List Value} {T : TypeId} {fz : Nat × Nat} {vs : List Value} (hm : (b, Obj.cells c.toArray T fz) ∈ L) (ht : takeCells c o s = some vs) :
    ReadsAll h L b o vs := fun i v hi => .inr ⟨_, T, fz, hm, by simpa using (takeCells_spec ht).2 i v hi⟩
/-- A whole owned block. -/
theorem ReadsAll.whole {h : GH} {L : Own} {b : Nat} {c : Array Value} {T : TypeId} {fz : Nat × Nat} (hm : (b, Obj.cells c T fz) ∈ L) : ReadsAll h L b 0 c.toList :=
  fun i v hi => .inr ⟨c, T, fz, hm, by simpa using hi⟩

/-! ### Blocks taken out of those that are owned -/
def Take (N L R : Own) : Prop := L.Perm (N ++ R)
theorem Take.head {p : Nat × Obj} {R : Own} : Take [p] (p :: R) R := List.Perm.refl _
theorem Take.here {N R : Own} : Take N (N ++ R) R := List.Perm.refl _
theorem Take.whole {N : Own} : Take N N [] := by unfold Take; rw [List.append_nil]
theorem Take.cons {N L R : Own} {p : Nat × Obj} (ht : Take N L R) : Take N (p :: L) (p :: R) := (List.Perm.cons p ht).trans List.perm_middle.symm
theorem Take.app {N L R M : Own} (ht : Take N L R) : Take N (M ++ L) (M ++ R) :=
  (List.Perm.append_left M ht).trans (by rw [← List.append_assoc, ← List.append_assoc]; exact List.Perm.append_right R List.perm_append_comm)
theorem Take.nothing {L : Own} : Take [] L L := List.Perm.refl _
theorem Take.two {p : Nat × Obj} {N L R R' : Own} (h1 : Take [p] L R) (h2 : Take N R R') : Take (p :: N) L R' := List.Perm.trans h1 (List.Perm.cons p h2)
theorem Take.more {M N L R R' : Own} (h1 : Take M L R) (h2 : Take N R R') : Take (M ++ N) L R' := by
  unfold Take at *
  rw [List.append_assoc]
  exact List.Perm.trans h1 (List.Perm.append_left M h2)
theorem Take.mem {p : Nat × Obj} {L R : Own} (ht : Take [p] L R) : p ∈ L := List.Perm.mem_iff ht |>.2 (List.mem_append_left _ (List.mem_cons_self ..))
theorem Reads.own {h : GH} {L R : Own} {b o : Nat} {c : Array Value} {T : TypeId} {fz : Nat × Nat} {v : Value} (ht : Take [(b, Obj.cells c T fz)] L R) (hc : c[o]? = some v) : Reads h L b o v := .inr ⟨c, T, fz, ht.mem, hc⟩
theorem ReadsAll.own {h : GH} {L R : Own} {b o s : Nat} {c : List Value} {T : TypeId} {fz : Nat × Nat} {vs : List Value} (hm : Take [(b, Obj.cells c.toArray T fz)] L R) (ht : takeCells c o s = some vs) : ReadsAll h L b o vs := .owned hm.mem ht

/-! ### Operations without effect -/
section
variable {P : Program} {B : Base} {E : Env} {A : Bool} {h h' : GH} {L L' : Own} {Q : Post} {n : Nat} {ops : Array Oper} {l : List Oper}

/-- Under A: the operation gives v, and all is as it was. -/
def OpP (P : Program) (B : Base) (E : Env) (A : Bool) (h : GH) (L : Own) (o : Oper) (v : Value) : Prop :=
  A = true → ∀ n a w, EnvOk n E a → Step B h L w → ∀ (K : Act → World → Prop) (Q : Post), (∀ w', Step B h L w' → K (a.put o.dst v) w') → o.wp P a w K Q

theorem OpP.of_run {o : Oper} {v : Value} (H : A = true → ∀ n a w, EnvOk n E a → Step B h L w → (execOp a.eval o).run P w = .ok (.value v) w) : OpP P B E A h L o v :=
  fun hA n a w ha hw K Q hK => by
    unfold Oper.wp
    rw [H hA n a w ha hw]
    exact hK w hw

variable {d : Option Tmp} {ty : TypeId} {pos : String} {af : Array Edge} {g : Option (Nat × Bool)} {x y z : Operand} {v u : Value} {t t' : TypeId}

theorem OpP.move (hx : Val E A x v) : OpP P B E A h L ⟨d, .move x, ty, pos, af, g⟩ v :=
  .of_run fun hA _ _ _ ha _ => by simp [execOp, hx hA _ _ ha]
theorem OpP.assign (hx : Val E A x v) : OpP P B E A h L ⟨d, .assign x, ty, pos, af, g⟩ v :=
  .of_run fun hA _ _ _ ha _ => by simp [execOp, hx hA _ _ ha]
theorem OpP.not {b : Bool} (hx : Val E A x (.bool b)) : OpP P B E A h L ⟨d, .unOp .not t x, ty, pos, af, g⟩ (.bool !b) :=
  .of_run fun hA _ _ _ ha _ => by simp [execOp, Op.unary, hx hA _ _ ha]
theorem OpP.neg {k : IntKind} {a : Int} (hx : Val E A x (.int k a)) : OpP P B E A h L ⟨d, .unOp .neg t x, ty, pos, af, g⟩ (.int k (k.wrap (0 - a))) :=
  .of_run fun hA _ _ _ ha _ => by simp [execOp, Op.unary, Op.intArith, hx hA _ _ ha]

/-- What a binary operation on two numbers of one kind gives; division apart. -/
def intBin : BinOp → IntKind → Int → Int → Option Value
  | .add, k, a, b => some (.int k (k.wrap (a + b)))
  | .sub, k, a, b => some (.int k (k.wrap (a - b)))
  | .mul, k, a, b => some (.int k (k.wrap (a * b)))
  | .and, k, a, b => some (.int k (k.wrap (BitVec.ofInt k.bits a &&& BitVec.ofInt k.bits b).toNat))
  | .or, k, a, b => some (.int k (k.wrap (BitVec.ofInt k.bits a ||| BitVec.ofInt k.bits b).toNat))
  | .xor, k, a, b => some (.int k (k.wrap (BitVec.ofInt k.bits a ^^^ BitVec.ofInt k.bits b).toNat))
  | .andNot, k, a, b => some (.int k (k.wrap (BitVec.ofInt k.bits a &&& ~~~BitVec.ofInt k.bits b).toNat))
  | .eql, _, a, b => some (.bool (a == b))
  | .neq, _, a, b => some (.bool (a != b))
  | .lss, _, a, b => some (.bool (decide (a < b)))
  | .leq, _, a, b => some (.bool (decide (a ≤ b)))
  | .gtr, _, a, b => some (.bool (decide (a > b)))
  | .geq, _, a, b => some (.bool (decide (a ≥ b)))
  | _, _, _, _ => none
theorem run_intBin {op : BinOp} {k : IntKind} {a b : Int} {w : World} (hv : intBin op k a b = some v) : (binOp op t (.int k a) (.int k b)).run P w = .ok v w := by
  cases op <;> simp only [intBin, Option.some.injEq, reduceCtorEq] at hv <;> subst hv <;> simp [binOp, Op.intArith, Op.intBits, Op.intCmp]
theorem OpP.bin {op : BinOp} {k : IntKind} {a b : Int} (hx : Val E A x (.int k a)) (hy : Val E A y (.int k b)) (hv : intBin op k a b = some v) : OpP P B E A h L ⟨d, .binOp op t x y t', ty, pos, af, g⟩ v :=
  .of_run fun hA _ _ w ha _ => by
    have h1 := hx hA _ _ ha
    have h2 := hy hA _ _ ha
    have hg : (eqGuard op t x y (.int k a) (.int k b)).run P w = .ok () w := by cases op <;> simp [eqGuard]
    simp [execOp, h1, h2, hg, run_intBin hv]
/-- Sums that stay within the kind. -/
theorem wrap64_in {a : Int} (h1 : -9223372036854775808 ≤ a) (h2 : a ≤ 9223372036854775807) : IntKind.i64.wrap a = a := IntWalk.i64_in a ⟨h1, h2⟩
theorem OpP.add64 {a b : Int} (hx : Val E A x (.int .i64 a)) (hy : Val E A y (.int .i64 b)) (h1 : -9223372036854775808 ≤ a + b) (h2 : a + b ≤ 9223372036854775807) :
    OpP P B E A h L ⟨d, .binOp .add t x y t', ty, pos, af, g⟩ (.int .i64 (a + b)) := OpP.bin hx hy (by simp only [intBin, wrap64_in h1 h2])
theorem OpP.sub64 {a b : Int} (hx : Val E A x (.int .i64 a)) (hy : Val E A y (.int .i64 b)) (h1 : -9223372036854775808 ≤ a - b) (h2 : a - b ≤ 9223372036854775807) :
    OpP P B E A h L ⟨d, .binOp .sub t x y t', ty, pos, af, g⟩ (.int .i64 (a - b)) := OpP.bin hx hy (by simp only [intBin, wrap64_in h1 h2])
theorem OpP.mul64 {a b : Int} (hx : Val E A x (.int .i64 a)) (hy : Val E A y (.int .i64 b)) (h1 : -9223372036854775808 ≤ a * b) (h2 : a * b ≤ 9223372036854775807) :
    OpP P B E A h L ⟨d, .binOp .mul t x y t', ty, pos, af, g⟩ (.int .i64 (a * b)) := OpP.bin hx hy (by simp only [intBin, wrap64_in h1 h2])
theorem OpP.quo {k : IntKind} {a b : Int} (hx : Val E A x (.int k a)) (hy : Val E A y (.int k b)) (hb : b ≠ 0) : OpP P B E A h L ⟨d, .binOp .quo t x y t', ty, pos, af, g⟩ (.int k (k.wrap (a.tdiv b))) :=
  .of_run fun hA _ _ w ha _ => by
    have h1 := hx hA _ _ ha
    have h2 := hy hA _ _ ha
    simp [execOp, h1, h2, eqGuard, binOp, Op.intDiv, hb]
theorem OpP.rem {k : IntKind} {a b : Int} (hx : Val E A x (.int k a)) (hy : Val E A y (.int k b)) (hb : b ≠ 0) : OpP P B E A h L ⟨d, .binOp .rem t x y t', ty, pos, af, g⟩ (.int k (a.tmod b)) :=
  .of_run fun hA _ _ w ha _ => by
    have h1 := hx hA _ _ ha
    have h2 := hy hA _ _ ha
    simp [execOp, h1, h2, eqGuard, binOp, Op.intDiv, hb]
theorem OpP.shl {k k' : IntKind} {a b : Int} (hx : Val E A x (.int k a)) (hy : Val E A y (.int k' b)) (hb : 0 ≤ b) : OpP P B E A h L ⟨d, .binOp .shl t x y t', ty, pos, af, g⟩ (.int k (k.wrap (a * 2 ^ (min b.toNat k.bits)))) :=
  .of_run fun hA _ _ w ha _ => by
    have h1 := hx hA _ _ ha
    have h2 := hy hA _ _ ha
    have : ¬ b < 0 := by omega
    simp [execOp, h1, h2, eqGuard, binOp, Op.shift, this]
theorem OpP.shr {k k' : IntKind} {a b : Int} (hx : Val E A x (.int k a)) (hy : Val E A y (.int k' b)) (hb : 0 ≤ b) : OpP P B E A h L ⟨d, .binOp .shr t x y t', ty, pos, af, g⟩ (.int k (a.fdiv (2 ^ (min b.toNat k.bits)))) :=
  .of_run fun hA _ _ w ha _ => by
    have h1 := hx hA _ _ ha
    have h2 := hy hA _ _ ha
    have : ¬ b < 0 := by omega
    simp [execOp, h1, h2, eqGuard, binOp, Op.shift, this]
theorem OpP.eql_bool {a b : Bool} (hx : Val E A x (.bool a)) (hy : Val E A y (.bool b)) (hu : Under P t .bool) : OpP P B E A h L ⟨d, .binOp .eql t x y t', ty, pos, af, g⟩ (.bool (a == b)) :=
  .of_run fun hA _ _ w ha _ => by
    have hr := run_eql_bool (P := P) w t a b hu.out
    simp only [execOp, hx hA _ _ ha, hy hA _ _ ha]
    simp [eqGuard, hr]
theorem OpP.eql_ptr {p : Option Addr} {e : TypeId} (hx : Val E A x (.pointer p)) (hy : Val E A y (.pointer none)) (hu : Under P t (.pointer e)) : OpP P B E A h L ⟨d, .binOp .eql t x y t', ty, pos, af, g⟩ (.bool p.isNone) :=
  .of_run fun hA _ _ w ha _ => by
    have hr := run_eql_pointer_nil (P := P) w t p (by simp [Program.pointee, hu.out])
    simp only [execOp, hx hA _ _ ha, hy hA _ _ ha]
    simp [eqGuard, hr]
theorem OpP.conv {k k' : IntKind} {a : Int} {dd : TypeDesc} (hx : Val E A x (.int k a)) (hi1 : Under P t dd) (hi2 : Under P t' (.int k')) : OpP P B E A h L ⟨d, .convert t t' x, ty, pos, af, g⟩ (.int k' (k'.wrap a)) :=
  .of_run fun hA _ _ w ha _ => by
    have h1 := hx hA _ _ ha
    have hu := Under.out (P := P) (t := t) (d := dd)
    have hu' := Under.out (P := P) (t := t') (d := .int k')
    simp [execOp, h1, convert, run_underlying hu, run_underlying hu', Conv.intToInt]
theorem OpP.pick {b : Bool} (hx : Val E A x (.bool b)) (hy : Val E A y v) (hz : Val E A z u) : OpP P B E A h L ⟨d, .pick x y z, ty, pos, af, g⟩ (if b then v else u) :=
  .of_run fun hA _ _ w ha _ => by
    simp [execOp, hx hA _ _ ha, hy hA _ _ ha, hz hA _ _ ha, asBool]
theorem OpP.pick_and {b c : Bool} (hx : oev E x = some (.bool b)) (hy : oev E y = some (lzv b (.bool c))) (hz : oev E z = some (.bool false)) : OpP P B E A h L ⟨d, .pick x y z, ty, pos, af, g⟩ (.bool (b && c)) :=
  .of_run fun _ _ _ w ha _ => by
    cases b <;> simp [execOp, ha.eval hx, ha.eval hy, ha.eval hz, asBool, lzv_true, lzv_false]
theorem OpP.pick_or {b c : Bool} (hx : oev E x = some (.bool b)) (hy : oev E y = some (.bool true)) (hz : oev E z = some (lzv (!b) (.bool c))) : OpP P B E A h L ⟨d, .pick x y z, ty, pos, af, g⟩ (.bool (b || c)) :=
  .of_run fun _ _ _ w ha _ => by
    cases b <;> simp [execOp, ha.eval hx, ha.eval hy, ha.eval hz, asBool, lzv_true, lzv_false]
/-- The same within a guard. -/
theorem OpP.pick_and' {b c : Bool} (hx : oev E x = some (lzv A (.bool b))) (hy : oev E y = some (lzv (A && b) (.bool c))) (hz : oev E z = some (.bool false)) : OpP P B E A h L ⟨d, .pick x y z, ty, pos, af, g⟩ (.bool (b && c)) :=
  .of_run fun hA _ _ w ha _ => by
    subst hA
    cases b <;> simp [execOp, ha.eval hx, ha.eval hy, ha.eval hz, asBool, lzv_true, lzv_false]
theorem OpP.pick_or' {b c : Bool} (hx : oev E x = some (lzv A (.bool b))) (hy : oev E y = some (.bool true)) (hz : oev E z = some (lzv (A && !b) (.bool c))) : OpP P B E A h L ⟨d, .pick x y z, ty, pos, af, g⟩ (.bool (b || c)) :=
  .of_run fun hA _ _ w ha _ => by
    subst hA
    cases b <;> simp [execOp, ha.eval hx, ha.eval hy, ha.eval hz, asBool, lzv_true, lzv_false]
theorem OpP.fieldAddr {b o f off : Nat} (hx : Val E A x (.pointer (some ⟨b, o, none⟩))) (hf : FieldIs P t f off) : OpP P B E A h L ⟨d, .fieldAddr t x f, ty, pos, af, g⟩ (.pointer (some ⟨b, o + off, none⟩)) :=
  .of_run fun hA _ _ w ha _ => by
    obtain ⟨fs, fd, i, h1, h2, h3, h4, h5⟩ := hf.out
    have hadd : (⟨b, o, none⟩ : Addr).add off = ⟨b, o + off, none⟩ := by unfold Addr.add; split <;> simp_all
    simp [execOp, hx hA _ _ ha, Instr.fieldAt, run_underlying h1, h2, Instr.sureAddr, fieldPlace, sizeOf, typeInfo, h4, h5, h3, hadd]
theorem OpP.extract {vs : Array Value} {i : Nat} (hx : Val E A x (.tuple vs)) (hv : vs[i]? = some v) : OpP P B E A h L ⟨d, .extract x i, ty, pos, af, g⟩ v :=
  .of_run fun hA _ _ w ha _ => by
    simp [execOp, hx hA _ _ ha, Instr.extract, hv]
theorem OpP.indexSl {b o m cap i s : Nat} {k : IntKind} {e : TypeId} (hx : Val E A x (.slice (some ⟨b, o, none⟩) m cap)) (hy : Val E A y (.int k (i : Int))) (hi : A = true → i < m) (hu : Under P t (.slice e)) (hs : SizeIs P e s) :
    OpP P B E A h L ⟨d, .indexAddr t x y, ty, pos, af, g⟩ (.pointer (some ⟨b, o + i * s, none⟩)) :=
  .of_run fun hA _ _ w ha _ => by
    obtain ⟨inf, h1, h2⟩ := hs.out
    have hadd : (⟨b, o, none⟩ : Addr).add (i * s) = ⟨b, o + i * s, none⟩ := by unfold Addr.add; split <;> simp_all
    have := hi hA
    simp [execOp, hx hA _ _ ha, hy hA _ _ ha, Instr.indexAt, run_underlying hu.out, sizeOf, typeInfo, h1, h2, asIntOf, hadd, this]
theorem OpP.load1 {b o : Nat} (hx : Val E A x (.pointer (some ⟨b, o, none⟩))) (hr : A = true → Reads h L b o v) (ho : OneCell P t) : OpP P B E A h L ⟨d, .load t x, ty, pos, af, g⟩ v :=
  .of_run fun hA _ _ w ha hw => by
    obtain ⟨dd, h1, h2⟩ := ho.out
    have hc := (hr hA).cell hw
    have hagg : (isAgg t).run P w = .ok false w := by
      unfold isAgg
      simp only [Sem.run_bind, run_underlying h1, Result.andThen_ok]
      cases dd <;> simp_all
    simp [execOp, hx hA _ _ ha, Instr.loadAt, Instr.sureAddr, loadVar, hagg, hc]
theorem run_loadCellsFrom (P : Program) {w : World} {b o : Nat} : ∀ (vs : List Value) (i : Nat) (acc : Array Value), (∀ j v, vs[j]? = some v → w.cell? ⟨b, o + i + j, none⟩ = some v) →
    (loadCellsFrom ⟨b, o, none⟩ i vs.length acc).run P w = .ok (acc ++ vs.toArray) w := by
  intro vs
  induction vs with
  | nil => intro i acc _; simp [loadCellsFrom]
  | cons v vs ih =>
    intro i acc hc
    have hadd : (⟨b, o, none⟩ : Addr).add i = ⟨b, o + i, none⟩ := by unfold Addr.add; split <;> simp_all
    have h0 : w.cell? ⟨b, o + i, none⟩ = some v := hc 0 v rfl
    have := ih (i + 1) (acc.push v) (fun j u hu => by have := hc (j + 1) u (by simpa using hu); rw [show o + (i + 1) + j = o + i + (j + 1) by omega]; exact this)
    simp [loadCellsFrom, hadd, h0, this]
theorem run_loadVar_many {b o s : Nat} {vs : List Value} {w : World} (hl : vs.length = s) (hc : ∀ j v, vs[j]? = some v → w.cell? ⟨b, o + j, none⟩ = some v) (hm : ManyCells P t s) :
    (loadVar t ⟨b, o, none⟩).run P w = .ok (.agg vs.toArray) w := by
  obtain ⟨dd, h1, h2⟩ := hm.under
  obtain ⟨inf, h3, h4⟩ := hm.size
  have hagg : (isAgg t).run P w = .ok true w := by
    unfold isAgg
    simp only [Sem.run_bind, run_underlying h1, Result.andThen_ok]
    cases dd <;> simp_all
  have := run_loadCellsFrom P (w := w) (b := b) (o := o) vs 0 #[] (by simpa using hc)
  simp only [hl] at this
  simp [loadVar, hagg, sizeOf, typeInfo, h3, h4, loadCells, this]
theorem OpP.loadN {b o s : Nat} {vs : List Value} (hx : Val E A x (.pointer (some ⟨b, o, none⟩))) (hr : A = true → ReadsAll h L b o vs) (hl : vs.length = s) (hi1 : ManyCells P t s) : OpP P B E A h L ⟨d, .load t x, ty, pos, af, g⟩ (.agg vs.toArray) :=
  .of_run fun hA _ _ w ha hw => by
    have := run_loadVar_many (P := P) (t := t) (w := w) hl (fun j v hj => (hr hA j v hj).cell hw)
    simp [execOp, hx hA _ _ ha, Instr.loadAt, Instr.sureAddr, this]
/-- A struct within an owned block. -/
theorem OpP.loadO {b o s : Nat} {c vs : List Value} {T : TypeId} {fz : Nat × Nat} {R : Own} (hi1 : ManyCells P t s) (hx : Val E A x (.pointer (some ⟨b, o, none⟩))) (hm : Take [(b, Obj.cells c.toArray T fz)] L R) (ht : takeCells c o s = some vs) : OpP P B E A h L ⟨d, .load t x, ty, pos, af, g⟩ (.agg vs.toArray) :=
  OpP.loadN hx (fun _ => ReadsAll.own hm ht) (takeCells_spec ht).1 hi1
/-- A whole owned block of a struct's type. -/
theorem OpP.loadW {b s : Nat} {c : Array Value} {T : TypeId} {fz : Nat × Nat} {R : Own} (hx : Val E A x (.pointer (some ⟨b, 0, none⟩))) (hm : Take [(b, Obj.cells c T fz)] L R) (hl : Nat.beq c.size s = true) (hi1 : ManyCells P t s) : OpP P B E A h L ⟨d, .load t x, ty, pos, af, g⟩ (.agg c) := by
  have := OpP.loadN (P := P) (B := B) (h := h) (L := L) (d := d) (ty := ty) (pos := pos) (af := af) (g := g) (vs := c.toList) hx (fun _ => ReadsAll.whole hm.mem) (by simpa using Nat.eq_of_beq_eq_true hl) hi1
  simpa using this
theorem OpP.indexI {b o m cap s : Nat} {i : Int} {k : IntKind} {e : TypeId} (hx : Val E A x (.slice (some ⟨b, o, none⟩) m cap)) (hy : Val E A y (.int k i)) (hi0 : A = true → 0 ≤ i) (hi : A = true → i < (m : Int)) (hu : Under P t (.slice e)) (hs : SizeIs P e s) :
    OpP P B E A h L ⟨d, .indexAddr t x y, ty, pos, af, g⟩ (.pointer (some ⟨b, o + i.toNat * s, none⟩)) :=
  fun hA => by
    obtain ⟨j, rfl⟩ := Int.eq_ofNat_of_zero_le (hi0 hA)
    exact OpP.indexSl hx hy (fun hA => by have := hi hA; omega) hu hs hA
theorem OpP.lenSl {b : Option Addr} {m cap : Nat} {e : TypeId} (hx : Val E A x (.slice b m cap)) (hu : Under P t (.slice e)) :
    OpP P B E A h L ⟨d, .call ⟨.builtin .len, #[x], #[t]⟩, ty, pos, af, g⟩ (.int .i64 (m : Int)) :=
  .of_run fun hA _ _ w ha _ => by
    simp [execOp, hx hA _ _ ha, resolve, invoke, builtin, Builtin.len_, run_underlying hu.out, goInt]
theorem OpP.lenStr {s : ByteArray} (hx : Val E A x (.string s)) (hu : Under P t .string) :
    OpP P B E A h L ⟨d, .call ⟨.builtin .len, #[x], #[t]⟩, ty, pos, af, g⟩ (.int .i64 (s.size : Int)) :=
  .of_run fun hA _ _ w ha _ => by
    simp [execOp, hx hA _ _ ha, resolve, invoke, builtin, Builtin.len_, run_underlying hu.out, goInt]
theorem OpP.nilCheck {a : Addr} (hx : Val E A x (.pointer (some a))) : OpP P B E A h L ⟨d, .nilCheck x, ty, pos, af, g⟩ (.pointer (some a)) :=
  .of_run fun hA _ _ w ha _ => by simp [execOp, hx hA _ _ ha]
def evs (E : Env) (l : List Operand) : Option (List Value) := match l with
  | [] => some []
  | x :: l => match oev E x, evs E l with | some v, some vs => some (v :: vs) | _, _ => none
theorem evs_spec : ∀ {l : List Operand} {vs : List Value}, evs E l = some vs → ∀ {n : Nat} {a : Act}, EnvOk n E a → l.map a.eval = vs := by
  intro l
  induction l with
  | nil => intro vs hv n a _; cases hv; rfl
  | cons x l ih =>
    intro vs hv n a ha
    unfold evs at hv
    split at hv
    · rename_i v vs' h1 h2
      cases hv
      simp [ha.eval h1, ih h2 ha]
    · cases hv
theorem OpP.makeFunc {fn : Fn} {cs : List Operand} {vs : List Value} (hv : Vals E A cs vs) : OpP P B E A h L ⟨d, .makeFunc fn #[] cs.toArray, ty, pos, af, g⟩ (.func fn #[] vs.toArray) :=
  .of_run fun hA _ _ w ha _ => by
    have := hv.map hA ha
    simp [execOp, Instr.makeFunc, this]

/-! ### Guards, and one operation behind the other -/
def OpG (P : Program) (B : Base) (ops : Array Oper) (E : Env) (h : GH) (L : Own) (o : Oper) (v : Value) : Prop :=
  ∀ n a w, EnvOk n E a → Step B h L w → ∀ (K : Act → World → Prop) (Q : Post), (∀ w', Step B h L w' → K (a.put o.dst v) w') →
    if Region.wanted o (yielded ops a.tmps) then o.wp P a w K Q else K (a.put o.dst undef) w
theorem OpG.plain {o : Oper} (hg : o.guard = none) (ho : OpP P B E true h L o v) : OpG P B ops E h L o v :=
  fun n a w ha hw K Q hK => by
    simp only [Region.wanted, hg, if_true]
    exact ho rfl n a w ha hw K Q hK
theorem OpG.of_guard {o : Oper} {c : Bool} {j : Nat} {want : Bool} (hg : o.guard = some (j, want)) (hc : ∀ n a, EnvOk n E a → (yielded ops a.tmps j == some want) = c) (ho : OpP P B E c h L o v) : OpG P B ops E h L o (lzv c v) :=
  fun n a w ha hw K Q hK => by
    simp only [Region.wanted, hg, hc n a ha]
    cases c with
    | true => simp only [if_true]; exact ho rfl n a w ha hw K Q (by simpa only [lzv_true] using hK)
    | false => simp only [Bool.false_eq_true, if_false]; simpa only [lzv_false] using hK w hw
theorem yielded_of {j t : Nat} {b : Bool} (hj : (ops[j]?).bind (·.dst) = some t) (ht : eget E t = some (.bool b)) {n : Nat} {a : Act} (ha : EnvOk n E a) : yielded ops a.tmps j = some b := by
  simp [yielded, hj, ha.get t _ ht]
theorem OpG.onT {o : Oper} {b : Bool} {j tt : Nat} (hg : o.guard = some (j, true)) (hj : (ops[j]?).bind (·.dst) = some tt) (ht : eget E tt = some (.bool b)) (ho : OpP P B E b h L o v) : OpG P B ops E h L o (lzv b v) :=
  .of_guard hg (fun n a ha => by rw [yielded_of hj ht ha]; cases b <;> rfl) ho
theorem OpG.onF {o : Oper} {b : Bool} {j tt : Nat} (hg : o.guard = some (j, false)) (hj : (ops[j]?).bind (·.dst) = some tt) (ht : eget E tt = some (.bool b)) (ho : OpP P B E (!b) h L o v) : OpG P B ops E h L o (lzv (!b) v) :=
  .of_guard hg (fun n a ha => by rw [yielded_of hj ht ha]; cases b <;> rfl) ho
theorem yielded_lz {j t : Nat} {b C : Bool} (hj : (ops[j]?).bind (·.dst) = some t) (ht : eget E t = some (lzv C (.bool b))) {n : Nat} {a : Act} (ha : EnvOk n E a) : yielded ops a.tmps j = if C then some b else none := by
  cases C
  · simp [yielded, hj, ha.get t _ ht, lzv_false, undef]
  · simp [yielded, hj, ha.get t _ ht, lzv_true]
theorem OpG.onT' {o : Oper} {b C : Bool} {j tt : Nat} (hg : o.guard = some (j, true)) (hj : (ops[j]?).bind (·.dst) = some tt) (ht : eget E tt = some (lzv C (.bool b))) (ho : OpP P B E (C && b) h L o v) : OpG P B ops E h L o (lzv (C && b) v) :=
  .of_guard hg (fun n a ha => by rw [yielded_lz hj ht ha]; cases b <;> cases C <;> rfl) ho
theorem OpG.onF' {o : Oper} {b C : Bool} {j tt : Nat} (hg : o.guard = some (j, false)) (hj : (ops[j]?).bind (·.dst) = some tt) (ht : eget E tt = some (lzv C (.bool b))) (ho : OpP P B E (C && !b) h L o v) : OpG P B ops E h L o (lzv (C && !b) v) :=
  .of_guard hg (fun n a ha => by rw [yielded_lz hj ht ha]; cases b <;> cases C <;> rfl) ho

theorem RunL.pure {o : Oper} {dd : Nat} (hd : o.dst = some dd) (hn : Nat.blt dd n = true) (ho : OpG P B ops E h L o v) (hk : RunL P n B ops l ((dd, v) :: E) h L Q) : RunL P n B ops (o :: l) E h L Q := by
  intro a w ha hw
  refine wpList_step fun K hK => ?_
  have := ho n a w ha hw K Q (fun w' hw' => hK _ _ (by rw [hd]; exact hk _ _ (ha.put (Nat.le_of_ble_eq_true hn) v) hw'))
  exact this

/-! ### Calls -/
def callable (P : Program) (f : FuncId) : Bool := match P.funcs[f]? with
  | some fn => fn.name != "runtime.NumGoroutine" && fn.body.isSome
  | none => false
theorem run_callFunc {f : FuncId} {args : Array Value} {w : World} (hc : callable P f = true) : (callFunc f args).run P w = .ok (.enter f args) w := by
  unfold callable at hc
  split at hc
  · rename_i fn hf
    simp only [Bool.and_eq_true, bne_iff_ne, ne_eq] at hc
    obtain ⟨h1, h2⟩ := hc
    cases hh : fn.body with
    | none => simp [hh] at h2
    | some c => simp [callFunc, hf, h1, hh]
  · cases hc
theorem Oper.wp_call {o : Oper} {f : FuncId} {args : Array Value} {a : Act} {w : World} {K : Act → World → Prop} {R : Value → World → Prop} (hrun : (execOp a.eval o).run P w = .ok (.enter f args) w)
    (hs : Calls P f args w fun e w' => ∃ v, e = .returned v ∧ R v w') (hK : ∀ v w', R v w' → K (a.put o.dst v) w') : o.wp P a w K Q := by
  unfold Oper.wp
  rw [hrun]
  exact hs.mono fun e w' ⟨v, he, r⟩ => by subst he; exact hK v w' r
theorem run_call {f : FuncId} {xs : List Operand} {vs : List Value} {tys : Array TypeId} {a : Act} {w : World} (hc : callable P f = true) (hv : xs.map a.eval = vs) :
    (execOp a.eval ⟨d, .call ⟨.value (.func f), xs.toArray, tys⟩, ty, pos, af, g⟩).run P w = .ok (.enter f vs.toArray) w := by
  have hev : a.eval (.func f) = .func (.func f) #[] #[] := rfl
  simp [execOp, resolve, hev, Deferred.ofValue, invoke, hv, run_callFunc hc]
/-- A call that may be forgotten but for its value. -/
theorem OpP.call {f : FuncId} {xs : List Operand} {vs : List Value} {tys : Array TypeId} (hc : callable P f = true) (hv : Vals E A xs vs) (hs : A = true → Ctr P f vs.toArray h [] (fun r _ _ => r = v)) :
    OpP P B E A h L ⟨d, .call ⟨.value (.func f), xs.toArray, tys⟩, ty, pos, af, g⟩ v := by
  intro hA n a w ha hw K Q hK
  refine Oper.wp_call (R := fun r w' => r = v ∧ Step B h L w') (run_call hc (hv.map hA ha)) ((hs hA w (hw.pre_of (List.nil_sublist _))).mono ?_) (fun r w' ⟨e, st⟩ => by subst e; exact hK w' st)
  rintro e w' ⟨r, h', N, he, hr, st⟩
  refine ⟨r, he, hr, ?_⟩
  have s1 : Step B h' (N ++ L) w' := Step.call (Lc := []) hw st
  exact { s1 with gle := hw.gle, gnew := hw.gnew, sub := fun b o hb => s1.sub b o (st.gle b o hb), own := fun p hp => s1.own p (List.mem_append_right _ hp), apart := hw.apart, nd := hw.nd, lnew := hw.lnew }
theorem RunL.call {f : FuncId} {xs : List Operand} {vs : List Value} {tys : Array TypeId} {dd : Nat} {Lc R0 : Own} {R : Value → GH → Own → Prop} (hn : Nat.blt dd n = true) (hc : callable P f = true) (hv : evs E xs = some vs)
    (ht : Take Lc L R0) (hs : Ctr P f vs.toArray h Lc R) (hk : ∀ v h' N, GH.le h h' → R v h' N → RunL P n B ops l ((dd, v) :: E) h' (N ++ R0) Q) :
    RunL P n B ops (⟨some dd, .call ⟨.value (.func f), xs.toArray, tys⟩, ty, pos, af, none⟩ :: l) E h L Q := by
  intro a w ha hw
  refine wpList_plain rfl fun K hK => ?_
  have hw' : Step B h (Lc ++ R0) w := hw.perm ht
  refine Oper.wp_call (R := fun v w' => ∃ h' N, GH.le h h' ∧ R v h' N ∧ Step B h' (N ++ R0) w') (run_call hc (evs_spec hv ha)) ((hs w (hw'.pre_of (List.sublist_append_left _ _))).mono ?_) ?_
  · rintro e w' ⟨r, h', N, he, hr, st⟩
    exact ⟨r, he, h', N, st.gle, hr, Step.call hw' st⟩
  · rintro v w' ⟨h', N, hle, hr, st⟩
    exact hK _ _ (hk v h' N hle hr _ _ (ha.put (Nat.le_of_ble_eq_true hn) v) st)
theorem RunL.call0 {f : FuncId} {xs : List Operand} {vs : List Value} {tys : Array TypeId} {Lc R0 : Own} {R : Value → GH → Own → Prop} (hc : callable P f = true) (hv : evs E xs = some vs)
    (ht : Take Lc L R0) (hs : Ctr P f vs.toArray h Lc R) (hk : ∀ v h' N, GH.le h h' → R v h' N → RunL P n B ops l E h' (N ++ R0) Q) :
    RunL P n B ops (⟨none, .call ⟨.value (.func f), xs.toArray, tys⟩, ty, pos, af, none⟩ :: l) E h L Q := by
  intro a w ha hw
  refine wpList_plain rfl fun K hK => ?_
  have hw' : Step B h (Lc ++ R0) w := hw.perm ht
  refine Oper.wp_call (R := fun v w' => ∃ h' N, GH.le h h' ∧ R v h' N ∧ Step B h' (N ++ R0) w') (run_call hc (evs_spec hv ha)) ((hs w (hw'.pre_of (List.sublist_append_left _ _))).mono ?_) ?_
  · rintro e w' ⟨r, h', N, he, hr, st⟩
    exact ⟨r, he, h', N, st.gle, hr, Step.call hw' st⟩
  · rintro v w' ⟨h', N, hle, hr, st⟩
    exact hK _ _ (hk v h' N hle hr _ _ ha st)
end
end Go.Proofs.YtcckofgleghbgaaDoor.Sx
