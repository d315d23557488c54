/- Symbolic execution, part c: operations that make or write memory; entry and return. -/
import Derived.Test.YtcckofgleghbgaaDoorSxb
namespace Go.Proofs.YtcckofgleghbgaaDoor.Sx
open Go

/-- A slice's value. -/
structure Sl where
  p : Option Addr
  n : Nat
  c : Nat
abbrev Sl.v (s : Sl) : Value := .slice s.p s.n s.c
abbrev Sl.none : Sl := ⟨Option.none, 0, 0⟩

/-- The cells from o on, replaced. -/
def putAt : List Value → Nat → List Value → List Value
  | cs, 0, vs => vs ++ cs.drop vs.length
  | c :: cs, o + 1, vs => c :: putAt cs o vs
  | [], _ + 1, _ => []
theorem putAt_eq : ∀ (cs : List Value) (o : Nat) (vs : List Value), o + vs.length ≤ cs.length → putAt cs o vs = cs.take o ++ vs ++ cs.drop (o + vs.length)
  | cs, 0, vs, _ => by cases cs <;> simp [putAt]
  | c :: cs, o + 1, vs, h => by
    have := putAt_eq cs o vs (by simp at h; omega)
    simp [putAt, this, Nat.add_right_comm]
  | [], o + 1, vs, h => by simp at h
theorem putAt_length (cs : List Value) (o : Nat) (vs : List Value) (h : o + vs.length ≤ cs.length) : (putAt cs o vs).length = cs.length := by
  rw [putAt_eq cs o vs h]; simp; omega
/-- The same list, its spine written out. -/
def normL : List Value → Option (List Value)
  | [] => some []
  | c :: cs => match normL cs with | some l => some (c :: l) | none => none
theorem normL_eq : ∀ cs : List Value, normL cs = some cs
  | [] => rfl
  | c :: cs => by simp [normL, normL_eq cs]

theorem foldl_put (off : Nat) : ∀ (vs : List Value) (j : Nat) (cells : Array Value), off + j + vs.length ≤ cells.size →
    (vs.zipIdx j).foldl (fun (cs : Array Value) (p : Value × Nat) => cs.setIfInBounds (off + p.2) p.1) cells = (putAt cells.toList (off + j) vs).toArray
  | [], j, cells, h => by rw [putAt_eq _ _ _ (by simpa using h)]; simp
  | v :: vs, j, cells, h => by
    simp only [List.zipIdx_cons, List.foldl_cons]
    rw [foldl_put off vs (j + 1) _ (by simp at h ⊢; omega)]
    rw [putAt_eq _ _ _ (by simp at h ⊢; omega), putAt_eq _ _ _ (by simpa using h)]
    have hlt : off + j < cells.size := by simp at h; omega
    congr 1
    apply List.ext_getElem?
    intro i
    have hle : off + j + 1 + vs.length ≤ cells.size := by simp at h; omega
    simp only [Array.toList_setIfInBounds]
    rcases Nat.lt_trichotomy i (off + j) with hi | hi | hi
    · rw [List.append_assoc, List.append_assoc, List.getElem?_append_left (by simp; omega), List.getElem?_append_left (by simp; omega), List.getElem?_take_of_lt (by omega), List.getElem?_take_of_lt hi, List.getElem?_set_ne (by omega)]
    · subst hi
      rw [List.append_assoc, List.append_assoc, List.getElem?_append_left (by simp; omega), List.getElem?_take_of_lt (by omega), List.getElem?_set_self (by simpa using hlt), List.getElem?_append_right (by simp; omega)]
      have : min (off + j) cells.size = off + j := by omega
      simp [this]
    · by_cases h2 : i < off + j + 1 + vs.length
      · rw [List.append_assoc, List.append_assoc, List.getElem?_append_right (by simp; omega), List.getElem?_append_left (by simp; omega), List.getElem?_append_right (by simp; omega), List.getElem?_append_left (by simp; omega)]
        simp only [List.length_take, List.length_set, Array.length_toList]
        rw [show i - min (off + j) cells.size = (i - min (off + (j + 1)) cells.size) + 1 by omega, List.getElem?_cons_succ]
      · rw [List.getElem?_append_right (by simp; omega), List.getElem?_append_right (by simp; omega), List.getElem?_drop, List.getElem?_drop]
        simp only [List.length_append, List.length_take, List.length_set, Array.length_toList, List.length_cons]
        rw [List.getElem?_set_ne (by omega)]
        congr 1
        omega

/-- Parts laid into cells: 'Instr.fill' on lists. -/
def fillL (place : Nat → Option (Nat × Nat)) : List Value → List (Nat × Value) → Option (List Value)
  | cs, [] => some cs
  | cs, (i, v) :: rest => match place i with
    | none => none
    | some (off, size) => bif Nat.beq v.cells.size size && Nat.ble (off + size) cs.length then fillL place (putAt cs off v.cells.toList) rest else none
theorem fillL_spec {place : Nat → Option (Nat × Nat)} : ∀ {parts : List (Nat × Value)} {cs out : List Value}, fillL place cs parts = some out → Instr.fill place cs.toArray parts = some out.toArray
  | [], cs, out, h => by cases h; rfl
  | (i, v) :: rest, cs, out, h => by
    unfold fillL at h
    unfold Instr.fill
    split at h
    · cases h
    · rename_i off size hp
      cases hc : (Nat.beq v.cells.size size && Nat.ble (off + size) cs.length) with
      | false => rw [hc] at h; cases h
      | true =>
        rw [hc] at h
        simp only [Bool.and_eq_true] at hc
        have h1 : v.cells.size = size := Nat.eq_of_beq_eq_true hc.1
        have h2 : off + size ≤ cs.length := Nat.le_of_ble_eq_true hc.2
        have := fillL_spec h
        have hf := foldl_put off v.cells.toList 0 cs.toArray (by simp; omega)
        simp only [Nat.add_zero] at hf
        have hz : v.cells.zipIdx.foldl (fun cs x => cs.setIfInBounds (off + x.2) x.1) cs.toArray = (putAt cs off v.cells.toList).toArray := by
          rw [← Array.foldl_toList, Array.toList_zipIdx]; exact hf
        simp only [hp]
        rw [if_neg (by simp [h1]; omega)]
        exact (congrArg (fun c => Instr.fill place c rest) hz).trans this
def fillN (place : Nat → Option (Nat × Nat)) (cs : List Value) (parts : List (Nat × Value)) : Option (List Value) := match fillL place cs parts with
  | some l => normL l
  | none => none
theorem fillN_spec {place : Nat → Option (Nat × Nat)} {parts : List (Nat × Value)} {cs out : List Value} (h : fillN place cs parts = some out) : Instr.fill place cs.toArray parts = some out.toArray := by
  unfold fillN at h
  split at h
  · rename_i l hl
    rw [normL_eq] at h
    cases h
    exact fillL_spec hl
  · cases h

/-- A struct's fields (place, size) and zero cells. -/
class StructIs (P : Program) (t : TypeId) (places : outParam (List (Nat × Nat))) (zero : outParam (List Value)) : Prop where
  out : ∃ fs i, P.underlying t = some (.struct fs) ∧ P.info? t = some i ∧ i.zero = some (.agg zero.toArray) ∧ fs.toList.map (fun f => (P.info? f.type).map fun j => (f.offset, j.size)) = places.map some
theorem run_places {P : Program} {w : World} : ∀ {fs : List Field} {places : List (Nat × Nat)}, fs.map (fun f => (P.info? f.type).map fun j => (f.offset, j.size)) = places.map some →
    (fs.mapM (fun f => do pure (f.offset, ← sizeOf f.type)) : Sem (List (Nat × Nat))).run P w = .ok places w
  | [], places, h => by cases places <;> simp_all
  | f :: fs, places, h => by
    cases places with
    | nil => simp at h
    | cons p places =>
      simp only [List.map_cons, List.cons.injEq] at h
      obtain ⟨h1, h2⟩ := h
      cases hi : P.info? f.type with
      | none => simp [hi] at h1
      | some j =>
        simp [hi] at h1
        have := run_places (P := P) (w := w) h2
        simp only [List.mapM_cons, Sem.run_bind, sizeOf, typeInfo, run_program, Result.andThen_ok, hi, Sem.run_pure, h1] at this ⊢
        simp only [this, Result.andThen_ok, Sem.run_pure]

section
variable {P : Program} {B : Base} {E : Env} {A : Bool} {h h' : GH} {L L' R0 : Own} {Q : Post} {n : Nat} {ops : Array Oper} {l : List Oper}
variable {d : Option Tmp} {dd : Nat} {ty : TypeId} {pos : String} {af : Array Edge} {g : Option (Nat × Bool)} {x y z : Operand} {v u : Value} {t t' : TypeId}

/-! ### A value made of parts -/
def evp (E : Env) : List (Nat × Operand) → Option (List (Nat × Value))
  | [] => some []
  | (i, x) :: l => match oev E x, evp E l with | some v, some vs => some ((i, v) :: vs) | _, _ => none
theorem evp_spec : ∀ {l : List (Nat × Operand)} {vs : List (Nat × Value)}, evp E l = some vs → ∀ {n : Nat} {a : Act}, EnvOk n E a → l.map (fun p => (p.1, a.eval p.2)) = vs
  | [], vs, hv, n, a, _ => by cases hv; rfl
  | (i, x) :: l, vs, hv, n, a, ha => by
    unfold evp at hv
    split at hv
    · rename_i v vs' h1 h2
      cases hv
      simp [ha.eval h1, evp_spec h2 ha]
    · cases hv
theorem OpP.build {parts : List (Nat × Operand)} {vals : List (Nat × Value)} {places : List (Nat × Nat)} {zero out : List Value} (hs : StructIs P t places zero) (hv : evp E parts = some vals) (hf : fillN (places[·]?) zero vals = some out) : OpP P B E A h L ⟨d, .build t parts.toArray, ty, pos, af, g⟩ (.agg out.toArray) :=
  .of_run fun _ _ _ w ha _ => by
    obtain ⟨fs, i, h1, h2, h3, h4⟩ := hs.out
    have hm := run_places (P := P) (w := w) h4
    have hm' : (fs.mapM (fun f => do pure (f.offset, ← sizeOf f.type)) : Sem (Array (Nat × Nat))).run P w = .ok places.toArray w := by
      rw [← Array.toArray_toList (xs := fs), List.mapM_toArray]
      simp only [Sem.run_map, hm, Result.andThen_ok]
    have hfi := fillN_spec hf
    have hpl : (fun (i : Nat) => places.toArray[i]?) = (fun (i : Nat) => places[i]?) := by funext i; simp
    have hev := evp_spec hv ha
    simp only [execOp, Instr.build, zeroValue, typeInfo, Sem.run_bind, run_program, Result.andThen_ok, h2, Sem.run_pure, h3, run_underlying h1, hm', hpl, Value.cells, List.map_toArray, hev]
    simp only [hfi, Sem.run_pure, Result.andThen_ok]

/-! ### New blocks -/
theorem RunL.newBlock {o : Oper} {obj : Obj} (hg : o.guard = none) (hd : o.dst = some dd) (hn : Nat.blt dd n = true) {mk : Nat → Value}
    (hrun : ∀ a w, EnvOk n E a → Step B h L w → (execOp a.eval o).run P w = .ok (.value (mk w.heap.size)) (w.alloc obj))
    (hk : ∀ b, RunL P n B ops l ((dd, mk b) :: E) h ((b, obj) :: L) Q) : RunL P n B ops (o :: l) E h L Q := by
  intro a w ha hw
  refine wpList_plain hg fun K hK => ?_
  unfold Oper.wp
  rw [hrun a w ha hw]
  simp only [Oper.upon, hd]
  exact hK _ _ (hk _ _ _ (ha.put (Nat.le_of_ble_eq_true hn) _) (hw.alloc obj))
theorem RunL.box {cs : Array Value} (hn : Nat.blt dd n = true) (hx : oev E x = some v) (hc : v.cells = cs)
    (hk : ∀ b, RunL P n B ops l ((dd, .pointer (some ⟨b, 0, none⟩)) :: E) h ((b, .cells cs t) :: L) Q) : RunL P n B ops (⟨some dd, .box t x, ty, pos, af, none⟩ :: l) E h L Q :=
  .newBlock rfl rfl hn (mk := fun b => .pointer (some ⟨b, 0, none⟩)) (fun a w ha _ => by simp [execOp, Instr.box, newVar, newRow, ha.eval hx, hc]) hk
theorem RunL.boxA {cs : Array Value} (hn : Nat.blt dd n = true) (hx : oev E x = some (.agg cs))
    (hk : ∀ b, RunL P n B ops l ((dd, .pointer (some ⟨b, 0, none⟩)) :: E) h ((b, .cells cs t) :: L) Q) : RunL P n B ops (⟨some dd, .box t x, ty, pos, af, none⟩ :: l) E h L Q :=
  .newBlock rfl rfl hn (mk := fun b => .pointer (some ⟨b, 0, none⟩)) (fun a w ha _ => by simp [execOp, Instr.box, newVar, newRow, ha.eval hx, Value.cells]) hk
theorem RunL.alloc {zv : Value} {cs : Array Value} (hz : ZeroIs P t zv) (hn : Nat.blt dd n = true) (hc : zv.cells = cs) (hk : ∀ b, RunL P n B ops l ((dd, .pointer (some ⟨b, 0, none⟩)) :: E) h ((b, .cells cs t) :: L) Q) : RunL P n B ops (⟨some dd, .alloc t, ty, pos, af, none⟩ :: l) E h L Q :=
  .newBlock rfl rfl hn (mk := fun b => .pointer (some ⟨b, 0, none⟩)) (fun a w ha _ => by
    obtain ⟨i, h1, h2⟩ := hz.out
    simp [execOp, Instr.alloc, zeroValue, typeInfo, h1, h2, newVar, newRow, hc]) hk
theorem RunL.makeMap (hn : Nat.blt dd n = true)
    (hk : ∀ b, RunL P n B ops l ((dd, .map (some b)) :: E) h ((b, .map #[] 0) :: L) Q) : RunL P n B ops (⟨some dd, .makeMap t none, ty, pos, af, none⟩ :: l) E h L Q :=
  .newBlock rfl rfl hn (mk := fun b => .map (some b)) (fun a w _ _ => by simp [execOp, Instr.makeMap]) hk
def repZ (zero : List Value) : Nat → List Value
  | 0 => []
  | k + 1 => zero ++ repZ zero k
theorem zeros_eq {zero : Array Value} (hz : 0 < zero.size) : ∀ m : Nat, ((List.range (m * zero.size)).map fun i => zero[i % zero.size]!) = repZ zero.toList m
  | 0 => by simp [repZ]
  | m + 1 => by
    have h1 := zeros_eq hz m
    rw [Nat.succ_mul, Nat.add_comm, List.range_add, List.map_append, repZ, List.map_map]
    congr 1
    · apply List.ext_getElem
      · simp
      · intro i h1 h2
        simp at h1
        simp [Nat.mod_eq_of_lt h1, h1]
    · rw [← h1]
      apply List.map_congr_left
      intro i _
      simp [Nat.add_mod_left]
theorem run_buildSlice {parts : List (Nat × Operand)} {vals : List (Nat × Value)} {m s : Nat} {e : TypeId} {zv : Value} {out : List Value} (hu : Under P t (.slice e)) (hs : SizeIs P e s) (hz : ZeroIs P e zv)
    (hv : evp E parts = some vals) (hs0 : Nat.beq zv.cells.size s = true) (hpos : Nat.blt 0 s = true) (hm : Nat.ble (m * s) 16777216 = true)
    (hf : fillN (fun i => some (i * s, s)) (repZ zv.cells.toList m) vals = some out) {a : Act} {w : World} (ha : EnvOk n E a) :
    (execOp a.eval ⟨d, .buildSlice t m parts.toArray, ty, pos, af, g⟩).run P w = .ok (.value (.slice (some ⟨w.heap.size, 0, none⟩) m m)) (w.alloc (.cells out.toArray e)) := by
  obtain ⟨i, h1, h2⟩ := hs.out
  obtain ⟨j, h3, h4⟩ := hz.out
  have hev := evp_spec hv ha
  have hm' : m * s ≤ 16777216 := Nat.le_of_ble_eq_true hm
  have hs1 : zv.cells.size = s := Nat.eq_of_beq_eq_true hs0
  have hs2 : 0 < s := Nat.le_of_ble_eq_true hpos
  have hfi := fillN_spec hf
  have hij : j = i := by rw [h1] at h3; exact (Option.some.inj h3).symm
  subst hij
  have hzr : (Array.range (m * s)).map (fun i => zv.cells[i % zv.cells.size]!) = (repZ zv.cells.toList m).toArray := by
    have := zeros_eq (zero := zv.cells) (by omega) m
    rw [hs1] at this
    apply Array.ext'
    simp only [Array.toList_map, Array.toList_range, hs1]
    exact this
  simp only [execOp, Instr.buildSlice, Sem.run_bind, run_underlying hu.out, Result.andThen_ok, sizeOf, typeInfo, run_program, h1, Sem.run_pure, h2]
  rw [if_neg (by omega)]
  by_cases h0 : m * s = 0
  · have hm0 : m = 0 := by rcases Nat.mul_eq_zero.1 h0 with h | h <;> omega
    subst hm0
    simp only [repZ] at hfi
    simp only [if_pos h0, Sem.run_bind, Sem.run_pure, Result.andThen_ok, List.map_toArray, hev]
    have hr0 : (Array.range (0 * s)).map (fun i => (#[] : Array Value)[i % (#[] : Array Value).size]!) = #[] := by apply Array.ext'; simp
    rw [hr0]
    have hfi' : Instr.fill (fun i => some (i * s, s)) #[] vals = some out.toArray := hfi
    simp only [hfi']
    simp [newRow]
  · simp only [if_neg h0, zeroValue, typeInfo, Sem.run_bind, run_program, Result.andThen_ok, h1, Sem.run_pure, h4, hzr, List.map_toArray, hev, hfi]
    simp [newRow]
theorem RunL.buildSlice {parts : List (Nat × Operand)} {vals : List (Nat × Value)} {m s : Nat} {e : TypeId} {zv : Value} {out : List Value} (hu : Under P t (.slice e)) (hs : SizeIs P e s) (hz : ZeroIs P e zv) (hn : Nat.blt dd n = true) (hv : evp E parts = some vals) (hs0 : Nat.beq zv.cells.size s = true) (hpos : Nat.blt 0 s = true) (hm : Nat.ble (m * s) 16777216 = true) (hf : fillN (fun i => some (i * s, s)) (repZ zv.cells.toList m) vals = some out) (hk : ∀ b, RunL P n B ops l ((dd, .slice (some ⟨b, 0, none⟩) m m) :: E) h ((b, .cells out.toArray e) :: L) Q) : RunL P n B ops (⟨some dd, .buildSlice t m parts.toArray, ty, pos, af, none⟩ :: l) E h L Q :=
  .newBlock rfl rfl hn (mk := fun b => .slice (some ⟨b, 0, none⟩) m m) (fun _ _ ha _ => run_buildSlice hu hs hz hv hs0 hpos hm hf ha) hk

/-! ### Stores -/
theorem RunQ.dummy : True := trivial
theorem Step.setRow {b : Nat} {c : Array Value} {T : TypeId} {fz : Nat × Nat} {w : World} (hw : Step B h ((b, .cells c T fz) :: L) w) (c' : Array Value) : Step B h ((b, .cells c' T fz) :: L) (w.setRow b c') := by
  have hb := hw.own _ (List.mem_cons_self ..)
  exact Step.write (L1 := []) (o := .cells c T fz) hw rfl rfl rfl (by simp [World.setRow]) (setRow_heap w b c c' T fz hb) (fun k hk => setRow_other w b k c' hk)
theorem run_storeVar {b o s : Nat} {c : Array Value} {T : TypeId} {w : World} (hb : w.heap[b]? = some (.cells c T (0, 0))) (hv : v.cells.size = s) (hfit : o + s ≤ c.size) (h1 : ∀ u ∈ v.cells.toList, u.oneCell' = true) (hs : SizeIs P t s) :
    (storeVar t ⟨b, o, none⟩ v).run P w = .ok () (w.setRow b (putAt c.toList o v.cells.toList).toArray) := by
  obtain ⟨i, h2, h3⟩ := hs.out
  have := run_storeCells_at P b o T v.cells.toList 0 c w hb (by simp; omega) h1
  rw [putAt_eq _ _ _ (by simp; omega)]
  simp only [Nat.add_zero] at this
  simp [storeVar, sizeOf, typeInfo, h2, h3, hv, this]
/-- A store into an owned block whose cells are written out. -/
theorem RunL.store {b o s : Nat} {c : List Value} {c' : List Value} {T : TypeId} (hs : SizeIs P t s) (hx : oev E x = some (.pointer (some ⟨b, o, none⟩))) (hy : oev E y = some v) (ht : Take [(b, .cells c.toArray T)] L R0) (hv : Nat.beq v.cells.size s = true) (h1 : v.cells.toList.all Value.oneCell' = true) (hfit : Nat.ble (o + s) c.length = true) (hc : normL (putAt c o v.cells.toList) = some c') (hk : RunL P n B ops l E h ((b, .cells c'.toArray T) :: R0) Q) : RunL P n B ops (⟨none, .store t x y, ty, pos, af, none⟩ :: l) E h L Q := by
  intro a w ha hw
  refine wpList_plain rfl fun K hK => ?_
  have hw' : Step B h ([(b, .cells c.toArray T)] ++ R0) w := hw.perm ht
  have hb := hw'.own _ (List.mem_append_left _ (List.mem_cons_self ..))
  have hr := run_storeVar (P := P) (t := t) (v := v) (o := o) hb (Nat.eq_of_beq_eq_true hv) (by simpa using Nat.le_of_ble_eq_true hfit) (fun u hu => List.all_eq_true.1 h1 u hu)
  rw [normL_eq] at hc
  cases hc
  unfold Oper.wp
  simp only [execOp, ha.eval hx, ha.eval hy, Instr.storeAt, Instr.sureAddr, Sem.run_bind, Sem.run_pure, Result.andThen_ok, hr, Oper.upon]
  exact hK _ _ (hk a _ ha (Step.setRow hw' _))
/-- A store into an owned block of any length. -/
theorem RunL.storeA {b o s : Nat} {c : Array Value} {T : TypeId} (hs : SizeIs P t s) (hx : oev E x = some (.pointer (some ⟨b, o, none⟩))) (hy : oev E y = some v) (ht : Take [(b, .cells c T)] L R0) (hv : Nat.beq v.cells.size s = true) (h1 : v.cells.toList.all Value.oneCell' = true) (hfit : o + s ≤ c.size) (hk : RunL P n B ops l E h ((b, .cells (putAt c.toList o v.cells.toList).toArray T) :: R0) Q) : RunL P n B ops (⟨none, .store t x y, ty, pos, af, none⟩ :: l) E h L Q := by
  intro a w ha hw
  refine wpList_plain rfl fun K hK => ?_
  have hw' : Step B h ([(b, .cells c T)] ++ R0) w := hw.perm ht
  have hb := hw'.own _ (List.mem_append_left _ (List.mem_cons_self ..))
  have hr := run_storeVar (P := P) (t := t) (v := v) (o := o) hb (Nat.eq_of_beq_eq_true hv) hfit (fun u hu => List.all_eq_true.1 h1 u hu)
  unfold Oper.wp
  simp only [execOp, ha.eval hx, ha.eval hy, Instr.storeAt, Instr.sureAddr, Sem.run_bind, Sem.run_pure, Result.andThen_ok, hr, Oper.upon]
  exact hK _ _ (hk a _ ha (Step.setRow hw' _))

/-! ### Slices of our own -/
/-- A slice that owns its array (or is nil): its elements' cells are xs. -/
def OwnSl (e : TypeId) (size : Nat) (s : Sl) (xs : List Value) (N : Own) : Prop :=
  (s = ⟨none, 0, 0⟩ ∧ xs = [] ∧ N = []) ∨
  ∃ b cur, s.p = some ⟨b, 0, none⟩ ∧ N = [(b, .cells cur e)] ∧ s.n ≤ s.c ∧ s.c ≤ maxLen ∧ cur.size = s.c * size ∧ cur.toList.take (s.n * size) = xs ∧ xs.length = s.n * size
theorem OwnSl.nil {e : TypeId} {size : Nat} : OwnSl e size ⟨none, 0, 0⟩ [] [] := .inl ⟨rfl, rfl, rfl⟩
theorem OwnSl.length {e : TypeId} {size : Nat} {s : Sl} {xs : List Value} {N : Own} (ho : OwnSl e size s xs N) : xs.length = s.n * size := by
  rcases ho with ⟨rfl, rfl, rfl⟩ | ⟨b, cur, _, _, _, _, _, _, hl⟩
  · simp
  · exact hl
/-- A slice over cells that nobody writes. -/
structure IsSl (h : GH) (size : Nat) (s : Sl) (xs : List Value) : Prop where
  len : xs.length = s.n * size
  le : s.n ≤ s.c
  max : s.c ≤ maxLen
  cells : s.n = 0 ∨ ∃ b o, s.p = some ⟨b, o, none⟩ ∧ Cells h b o xs
  nil : s.p = none → s.c = 0
  spot : ∀ a, s.p = some a → 0 < s.c → a.spot = none
theorem IsSl.mono {h h' : GH} {size : Nat} {s : Sl} {xs : List Value} (hl : GH.le h h') (hs : IsSl h size s xs) : IsSl h' size s xs :=
  { hs with cells := hs.cells.imp id fun ⟨b, o, hp, hc⟩ => ⟨b, o, hp, hc.mono hl⟩ }
theorem IsSl.nilSl {h : GH} {size : Nat} : IsSl h size ⟨Option.none, 0, 0⟩ [] := ⟨by simp, Nat.le_refl _, by simp [maxLen], .inl rfl, fun _ => rfl, fun _ hc _ => by cases hc⟩
end
section
variable {P : Program} {B : Base} {E : Env} {A : Bool} {h h' : GH} {L L' R0 : Own} {Q : Post} {n : Nat} {ops : Array Oper} {l : List Oper}
variable {d : Option Tmp} {dd : Nat} {ty : TypeId} {pos : String} {af : Array Edge} {g : Option (Nat × Bool)} {x y z : Operand} {v u : Value} {t t' : TypeId}

/-- An owned slice is handed over to those that nobody writes. -/
theorem Step.freezeSl {e : TypeId} {size : Nat} {s : Sl} {xs : List Value} {N : Own} {w : World} (ho : OwnSl e size s xs N) (hw : Step B h (N ++ L) w) : ∃ h', GH.le h h' ∧ IsSl h' size s xs ∧ Step B h' L w := by
  rcases ho with ⟨rfl, rfl, rfl⟩ | ⟨b, cur, hp, rfl, h1, h2, h3, h4, h5⟩
  · exact ⟨h, GH.le.refl h, .nilSl, hw⟩
  · obtain ⟨f1, f2⟩ := Step.freeze (b := b) (o := .cells cur e) (L := L) (by simpa using hw)
    refine ⟨_, f2, ⟨h5, h1, h2, .inr ⟨b, 0, hp, fun i v hi => ?_⟩, fun hc => by simp [hp] at hc, fun a ha _ => by rw [hp] at ha; cases ha; rfl⟩, f1⟩
    rw [← h4] at hi
    rw [List.getElem?_take] at hi
    split at hi
    · simp [GH.cell, GH.put_same]; simpa using hi
    · cases hi
theorem RunQ.freezeSl {ex : Exit} {e : TypeId} {size : Nat} {s : Sl} {xs : List Value} {N : Own} (ho : OwnSl e size s xs N) (ht : Take N L R0) (hk : ∀ h', GH.le h h' → IsSl h' size s xs → RunQ n B ex E h' R0 Q) : RunQ n B ex E h L Q :=
  fun a w ha hw => let ⟨h', h1, h2, h3⟩ := Step.freezeSl ho (hw.perm ht); hk h' h1 h2 a w ha h3
theorem RunL.freezeSl {e : TypeId} {size : Nat} {s : Sl} {xs : List Value} {N : Own} (ho : OwnSl e size s xs N) (ht : Take N L R0) (hk : ∀ h', GH.le h h' → IsSl h' size s xs → RunL P n B ops l E h' R0 Q) : RunL P n B ops l E h L Q :=
  fun a w ha hw => let ⟨h', h1, h2, h3⟩ := Step.freezeSl ho (hw.perm ht); hk h' h1 h2 a w ha h3
theorem Run.freezeSl {c : Code} {e : TypeId} {size : Nat} {s : Sl} {xs : List Value} {N : Own} (ho : OwnSl e size s xs N) (ht : Take N L R0) (hk : ∀ h', GH.le h h' → IsSl h' size s xs → Run P n B c E h' R0 Q) : Run P n B c E h L Q :=
  fun a w ha hw => let ⟨h', h1, h2, h3⟩ := Step.freezeSl ho (hw.perm ht); hk h' h1 h2 a w ha h3

/-- What an append reads: so many elements, at some place. -/
def SrcAt (h : GH) (L : Own) (size : Nat) (s : Sl) (xs : List Value) : Prop :=
  xs.length = s.n * size ∧ (s.n = 0 ∨ ∃ b o, s.p = some ⟨b, o, none⟩ ∧ ReadsAll h L b o xs)
theorem SrcAt.ghost {size : Nat} {s : Sl} {xs : List Value} (hs : IsSl h size s xs) : SrcAt h L size s xs :=
  ⟨hs.len, hs.cells.imp id fun ⟨b, o, hp, hc⟩ => ⟨b, o, hp, .ghost hc⟩⟩
theorem SrcAt.built {size m b : Nat} {c : List Value} {T : TypeId} {fz : Nat × Nat} {R : Own} (hm : Take [(b, Obj.cells c.toArray T fz)] L R) (hl : c.length = m * size) : SrcAt h L size ⟨some ⟨b, 0, none⟩, m, m⟩ c :=
  ⟨hl, .inr ⟨b, 0, rfl, by have := ReadsAll.whole (h := h) hm.mem; simpa using this⟩⟩

theorem Step.append {e : TypeId} {size bytes : Nat} {zv : Value} {w : World} (hu : P.underlying t = some (.slice e)) (hs : SizeIs P e size) (hb : BytesIs P e bytes) (hz : ZeroIs P e zv) (hzs : zv.cells.size = size) (hpos : 0 < size)
    {s r : Sl} {xs ys : List Value} {N : Own} (hw : Step B h (N ++ L) w) (ho : OwnSl e size s xs N) (hsrc : SrcAt h (N ++ L) size r ys) (h1 : ∀ u ∈ ys, u.oneCell' = true)
    (h63 : s.n + r.n ≤ maxLen) (hby : (s.n + r.n) * bytes ≤ 140737488355328) :
    ∃ s' N' w', (Builtin.append_ #[t, t] ty #[s.v, r.v]).run P w = .ok s'.v w' ∧ s'.n = s.n + r.n ∧ OwnSl e size s' (xs ++ ys) N' ∧ Step B h (N' ++ L) w' := by
  obtain ⟨i, hi, hisz⟩ := hs.out
  obtain ⟨i2, hi2, hiby⟩ := hb.out
  obtain ⟨i3, hi3, hiz⟩ := hz.out
  obtain rfl : i2 = i := by rw [hi] at hi2; exact (Option.some.inj hi2).symm
  obtain rfl : i3 = i2 := by rw [hi] at hi3; exact (Option.some.inj hi3).symm
  subst hisz
  subst hiby
  have h63' : s.n + r.n ≤ 9223372036854775807 := by simpa [maxLen] using h63
  have grown : ∀ (old : Nat) (xs0 : List Value), xs0.length = s.n * i3.size → old < s.n + r.n → Step B h L w →
      OwnSl e i3.size ⟨some ⟨w.heap.size, 0, none⟩, s.n + r.n, grownCap w (s.n + r.n) old e⟩ (xs0 ++ ys) [(w.heap.size, .cells (xs0.toArray ++ ys.toArray ++ Builtin.zeroCells zv.cells (grownCap w (s.n + r.n) old e - (s.n + r.n))) e)] ∧
      Step B h ([(w.heap.size, .cells (xs0.toArray ++ ys.toArray ++ Builtin.zeroCells zv.cells (grownCap w (s.n + r.n) old e - (s.n + r.n))) e)] ++ L) (w.drew.alloc (.cells (xs0.toArray ++ ys.toArray ++ Builtin.zeroCells zv.cells (grownCap w (s.n + r.n) old e - (s.n + r.n))) e)) := by
    intro old xs0 hx0 hold hw0
    have hge := grownCap_ge w (s.n + r.n) old e
    refine ⟨.inr ⟨w.heap.size, _, rfl, rfl, hge, grownCap_le_maxLen w (s.n + r.n) old e h63, ?_, ?_, ?_⟩, ?_⟩
    · simp only [Array.size_append, List.size_toArray, size_zeroCells, hzs, hx0, hsrc.1, ← Nat.add_mul]
      congr 1
      omega
    · simp only [Array.toList_append, List.append_assoc]
      rw [← List.append_assoc, show (s.n + r.n) * i3.size = (xs0 ++ ys).length by simp [hx0, hsrc.1, Nat.add_mul]]
      exact List.take_left
    · simp [hx0, hsrc.1, Nat.add_mul]
    · have := (Step.drew hw0).alloc (.cells (xs0.toArray ++ ys.toArray ++ Builtin.zeroCells zv.cells (grownCap w (s.n + r.n) old e - (s.n + r.n))) e)
      simpa using this
  have hwL : Step B h L w := hw.sublist (List.sublist_append_right _ _)
  rcases Nat.eq_zero_or_pos r.n with hr0 | hrpos
  · -- nothing is appended
    have hys : ys = [] := List.eq_nil_of_length_eq_zero (by rw [hsrc.1, hr0]; simp)
    subst hys
    have hle : s.n ≤ s.c := by
      rcases ho with ⟨rfl, _, _⟩ | ⟨_, _, _, _, hle, _⟩
      · exact Nat.le_refl _
      · exact hle
    refine ⟨s, N, w, ?_, by omega, by simpa using ho, hw⟩
    have hf : (Builtin.firstCells i3.size 0 r.v).run P w = .ok #[] w := by
      cases hp : r.p <;> simp [Sl.v, hp, Builtin.firstCells, loadCells, loadCellsFrom]
    cases hp : s.p <;> simp [Sl.v, Builtin.append_, run_underlying hu, sizeOf, typeInfo, hi, Builtin.lenOf, hr0, hle, hp] <;> simp [Sl.v, hr0] at hf <;> simp [hf, storeCells]
  · obtain ⟨b, o, hrp, hrr⟩ := hsrc.2.resolve_left (by omega)
    have hnews : ∀ j u, ys[j]? = some u → w.cell? ((⟨b, o, none⟩ : Addr).add j) = some u := fun j u hu => by
      rw [Addr.add_lit]; exact (hrr j u hu).cell hw
    rcases ho with ⟨rfl, rfl, rfl⟩ | ⟨g, cur, hp, rfl, hle, hmax, hsize, htake, hlen⟩
    · have hr := run_append_nil (P := P) w t ty e i3 zv hu hi hiz ⟨b, o, none⟩ r.n r.c ys hsrc.1 hnews hrpos (by have := h63'; simp at this; omega) (by simp at hby; omega)
      have hg := grown 0 [] (by simp) (by simpa using hrpos) hwL
      simp only [Nat.zero_add, List.nil_append] at hg
      refine ⟨_, _, _, ?_, by simp, hg.1, hg.2⟩
      simp only [Sl.v, hrp]
      rw [hr]
      simp
    · by_cases hroom : s.n + r.n ≤ s.c
      · have hg := hw.own (g, .cells cur e) (List.mem_append_left _ (List.mem_cons_self ..))
        have hfit : s.n * i3.size + ys.length ≤ cur.size := by rw [hsrc.1, hsize, ← Nat.add_mul]; exact Nat.mul_le_mul_right _ hroom
        have hr := run_append_room (P := P) w t ty e i3 hu hi g s.n s.c cur hg ⟨b, o, none⟩ r.n r.c ys hsrc.1 hnews h1 hroom hfit
        refine ⟨⟨some ⟨g, 0, none⟩, s.n + r.n, s.c⟩, [(g, .cells (cur.toList.take (s.n * i3.size) ++ ys ++ cur.toList.drop (s.n * i3.size + ys.length)).toArray e)], w.setRow g (cur.toList.take (s.n * i3.size) ++ ys ++ cur.toList.drop (s.n * i3.size + ys.length)).toArray, ?_, rfl, .inr ⟨g, _, rfl, rfl, hroom, hmax, ?_, ?_, ?_⟩, ?_⟩
        · simp only [Sl.v, hp, hrp]
          rw [hr]
        · simp only [List.size_toArray, List.length_append, List.length_take, List.length_drop, Array.length_toList]
          omega
        · simp only [htake]
          rw [show (s.n + r.n) * i3.size = (xs ++ ys).length by simp [hlen, hsrc.1, Nat.add_mul]]
          exact List.take_left
        · simp [hlen, hsrc.1, Nat.add_mul]
        · exact Step.setRow hw _
      · have holds : ∀ j u, xs[j]? = some u → w.cell? ((⟨g, 0, none⟩ : Addr).add j) = some u := fun j u hu => by
          rw [Addr.add_lit]
          have hg := hw.own (g, .cells cur e) (List.mem_append_left _ (List.mem_cons_self ..))
          simp only at hg
          rw [← htake, List.getElem?_take] at hu
          split at hu
          · simp [World.cell?, hg]; simpa using hu
          · cases hu
        have hr := run_append_grow (P := P) w t ty e i3 zv hu hi hiz ⟨g, 0, none⟩ s.n s.c xs hlen holds ⟨b, o, none⟩ r.n r.c ys hsrc.1 hnews (by omega) (by omega) (growslice_fits (by omega) hby)
        have hgr := grown s.c xs hlen (by omega) hwL
        refine ⟨_, _, _, ?_, rfl, hgr.1, hgr.2⟩
        simp only [Sl.v, hp, hrp]
        rw [hr]
theorem RunL.append {e : TypeId} {size bytes : Nat} {zv : Value} {s r : Sl} {xs ys : List Value} {N : Own} (hu : Under P t (.slice e)) (hs : SizeIs P e size) (hb : BytesIs P e bytes) (hz : ZeroIs P e zv) (hn : Nat.blt dd n = true) (hx : oev E x = some s.v) (hy : oev E y = some r.v) (ho : OwnSl e size s xs N) (ht : Take N L R0) (hsrc : SrcAt h (N ++ R0) size r ys) (h1 : ∀ u ∈ ys, u.oneCell' = true) (h63 : s.n + r.n ≤ maxLen) (hby : (s.n + r.n) * bytes ≤ 140737488355328) (hzs : Nat.beq zv.cells.size size = true) (hpos : Nat.blt 0 size = true) (hk : ∀ s' N', s'.n = s.n + r.n → OwnSl e size s' (xs ++ ys) N' → RunL P n B ops l ((dd, s'.v) :: E) h (N' ++ R0) Q) :
    RunL P n B ops (⟨some dd, .call ⟨.builtin .append, #[x, y], #[t, t]⟩, ty, pos, af, none⟩ :: l) E h L Q := by
  intro a w ha hw
  refine wpList_plain rfl fun K hK => ?_
  obtain ⟨s', N', w', hr, hn', ho', hw'⟩ := Step.append (ty := ty) hu.out hs hb hz (Nat.eq_of_beq_eq_true hzs) (Nat.le_of_ble_eq_true hpos) (hw.perm ht) ho hsrc h1 h63 hby
  unfold Oper.wp
  simp only [execOp, resolve, invoke, builtin, List.map_toArray, List.map_cons, List.map_nil, ha.eval hx, ha.eval hy, Sem.run_bind, Sem.run_pure, Result.andThen_ok, hr, Oper.upon]
  exact hK _ _ (hk s' N' hn' ho' _ _ (ha.put (Nat.le_of_ble_eq_true hn) _) hw')

/-! ### Calls of function values; guards ahead of what acts -/
theorem RunL.callv {f : FuncId} {xs : List Operand} {vs : List Value} {caps : Array Value} {tys : Array TypeId} {Lc : Own} {R : Value → GH → Own → Prop} (hn : Nat.blt dd n = true) (hc : callable P f = true) (hx : oev E x = some (.func (.func f) #[] caps)) (hv : evs E xs = some vs)
    (ht : Take Lc L R0) (hs : Ctr P f (vs.toArray ++ caps) h Lc R) (hk : ∀ v h' N, GH.le h h' → R v h' N → RunL P n B ops l ((dd, v) :: E) h' (N ++ R0) Q) :
    RunL P n B ops (⟨some dd, .call ⟨.value x, xs.toArray, tys⟩, ty, pos, af, none⟩ :: l) E h L Q := by
  intro a w ha hw
  refine wpList_plain rfl fun K hK => ?_
  have hw' : Step B h (Lc ++ R0) w := hw.perm ht
  have hev := evs_spec hv ha
  refine Oper.wp_call (f := f) (args := vs.toArray ++ caps) (R := fun v w' => ∃ h' N, GH.le h h' ∧ R v h' N ∧ Step B h' (N ++ R0) w') ?_ ((hs w (hw'.pre_of (List.sublist_append_left _ _))).mono ?_) ?_
  · simp [execOp, resolve, ha.eval hx, Deferred.ofValue, invoke, hev, run_callFunc hc]
  · rintro e w' ⟨r, h', N, he, hr, st⟩
    exact ⟨r, he, h', N, st.gle, hr, Step.call hw' st⟩
  · rintro v w' ⟨h', N, hle, hr, st⟩
    exact hK _ _ (hk v h' N hle hr _ _ (ha.put (Nat.le_of_ble_eq_true hn) v) st)
theorem OpP.callv {f : FuncId} {xs : List Operand} {vs : List Value} {caps : Array Value} {tys : Array TypeId} (hc : callable P f = true) (hx : Val E A x (.func (.func f) #[] caps)) (hv : Vals E A xs vs) (hs : A = true → Ctr P f (vs.toArray ++ caps) h [] (fun r _ _ => r = v)) :
    OpP P B E A h L ⟨d, .call ⟨.value x, xs.toArray, tys⟩, ty, pos, af, g⟩ v := by
  intro hA n a w ha hw K Q hK
  have hev := hv.map hA ha
  refine Oper.wp_call (f := f) (args := vs.toArray ++ caps) (R := fun r w' => r = v ∧ Step B h L w') ?_ ((hs hA w (hw.pre_of (List.nil_sublist _))).mono ?_) (fun r w' ⟨e, st⟩ => by subst e; exact hK w' st)
  · simp [execOp, resolve, hx hA _ _ ha, Deferred.ofValue, invoke, hev, run_callFunc hc]
  rintro e w' ⟨r, h', N, he, hr, st⟩
  refine ⟨r, he, hr, ?_⟩
  have s1 : Step B h' (N ++ L) w' := Step.call (Lc := []) hw st
  exact { s1 with gle := hw.gle, gnew := hw.gnew, sub := fun b o hb => s1.sub b o (st.gle b o hb), own := fun p hp => s1.own p (List.mem_append_right _ hp), apart := hw.apart, nd := hw.nd, lnew := hw.lnew }
/-- An operation behind a guard that has been decided. -/
theorem RunL.guard_yes {op : Op} {j tt : Nat} {want : Bool} (hj : (ops[j]?).bind (·.dst) = some tt) (ht : eget E tt = some (.bool want)) (hk : RunL P n B ops (⟨d, op, ty, pos, af, none⟩ :: l) E h L Q) : RunL P n B ops (⟨d, op, ty, pos, af, some (j, want)⟩ :: l) E h L Q := by
  intro a w ha hw
  have := hk a w ha hw
  have hy : Region.wanted (⟨d, op, ty, pos, af, some (j, want)⟩ : Oper) (yielded ops a.tmps) = true := by simp [Region.wanted, yielded_of hj ht ha]
  have hy' : Region.wanted (⟨d, op, ty, pos, af, none⟩ : Oper) (yielded ops a.tmps) = true := by simp [Region.wanted]
  unfold wpList at this ⊢
  rw [if_pos hy'] at this
  rw [if_pos hy]
  exact this
theorem RunL.guard_no {op : Op} {j tt : Nat} {want b : Bool} (hn : Nat.blt dd n = true) (hj : (ops[j]?).bind (·.dst) = some tt) (ht : eget E tt = some (.bool b)) (hne : (b == want) = false) (hk : RunL P n B ops l ((dd, undef) :: E) h L Q) : RunL P n B ops (⟨some dd, op, ty, pos, af, some (j, want)⟩ :: l) E h L Q := by
  intro a w ha hw
  refine wpList_skip ?_ (hk _ _ (ha.put (Nat.le_of_ble_eq_true hn) _) hw)
  simp only [Region.wanted, yielded_of hj ht ha]
  cases b <;> cases want <;> simp_all
theorem RunL.guard_no0 {op : Op} {j tt : Nat} {want b : Bool} (hj : (ops[j]?).bind (·.dst) = some tt) (ht : eget E tt = some (.bool b)) (hne : (b == want) = false) (hk : RunL P n B ops l E h L Q) : RunL P n B ops (⟨none, op, ty, pos, af, some (j, want)⟩ :: l) E h L Q := by
  intro a w ha hw
  refine wpList_skip ?_ (hk _ _ ha hw)
  simp only [Region.wanted, yielded_of hj ht ha]
  cases b <;> cases want <;> simp_all

/-! ### Entry and return -/
def CtrPost (B : Base) (R : Value → GH → Own → Prop) (e : Ending) (w' : World) : Prop := ∃ v h' L', e = .returned v ∧ R v h' L' ∧ Step B h' L' w'
def envOf : List Value → Nat → Env
  | [], _ => []
  | v :: vs, i => (i, v) :: envOf vs (i + 1)
theorem eget_envOf : ∀ {vs : List Value} {i t : Nat} {v : Value}, eget (envOf vs i) t = some v → i ≤ t ∧ vs[t - i]? = some v
  | [], _, _, _, hv => by cases hv
  | u :: vs, i, t, v, hv => by
    simp only [envOf, eget_cons] at hv
    split at hv
    · rename_i e; subst e; cases hv; simp
    · have := eget_envOf hv
      refine ⟨by omega, ?_⟩
      rw [show t - i = (t - (i + 1)) + 1 by omega]
      simpa using this.2
theorem Ctr.of_run {f : FuncId} {fn : Func} {c : Code} {args : List Value} {R : Value → GH → Own → Prop} {N : Nat} (hf : P.funcs[f]? = some fn) (hb : fn.body = some c) (hN : fn.ntmps = N) (hle : Nat.ble args.length N = true)
    (hr : ∀ w, Run P N ⟨h, ids L, w⟩ c (envOf args 0) h L (bodyPost P fn (CtrPost ⟨h, ids L, w⟩ R))) : Ctr P f args.toArray h L R := by
  intro w hw
  have hle' : args.length ≤ N := Nat.le_of_ble_eq_true hle
  refine calls_of_wp hf hb (hr w _ w ⟨rfl, by simp [hN]; omega, fun t v hv => ?_⟩ hw)
  obtain ⟨_, h2⟩ := eget_envOf hv
  simp only [Nat.sub_zero] at h2
  have hlt : t < args.length := (List.getElem?_eq_some_iff.1 h2).1
  show (args.toArray ++ Array.replicate _ undef)[t]? = some v
  rw [Array.getElem?_append_left (by simpa using hlt)]
  simpa using h2
variable {R : Value → GH → Own → Prop} {fn : Func}
theorem RunQ.ret1 {a1 : Nat} (hres : fn.results = #[.tmp a1]) (h1 : eget E a1 = some v) (hR : R v h L) : RunQ n B .ret E h L (bodyPost P fn (CtrPost B R)) := fun a w ha hw =>
  ⟨ha.defers, v, by simp [results, hres, ha.get _ _ h1], v, h, L, rfl, hR, hw⟩
theorem RunQ.ret2 {a1 a2 : Nat} (hres : fn.results = #[.tmp a1, .tmp a2]) (h1 : eget E a1 = some v) (h2 : eget E a2 = some u) (hR : R (.tuple #[v, u]) h L) : RunQ n B .ret E h L (bodyPost P fn (CtrPost B R)) := fun a w ha hw =>
  ⟨ha.defers, .tuple #[v, u], by simp [results, hres, ha.get _ _ h1, ha.get _ _ h2], _, h, L, rfl, hR, hw⟩
theorem RunQ.ret3 {a1 a2 a3 : Nat} {v3 : Value} (hres : fn.results = #[.tmp a1, .tmp a2, .tmp a3]) (h1 : eget E a1 = some v) (h2 : eget E a2 = some u) (h3 : eget E a3 = some v3) (hR : R (.tuple #[v, u, v3]) h L) : RunQ n B .ret E h L (bodyPost P fn (CtrPost B R)) := fun a w ha hw =>
  ⟨ha.defers, .tuple #[v, u, v3], by simp [results, hres, ha.get _ _ h1, ha.get _ _ h2, ha.get _ _ h3], _, h, L, rfl, hR, hw⟩
theorem RunQ.ret0 (hres : fn.results = #[]) (hR : R (.tuple #[]) h L) : RunQ n B .ret E h L (bodyPost P fn (CtrPost B R)) := fun a w ha hw =>
  ⟨ha.defers, .tuple #[], by simp [results, hres], _, h, L, rfl, hR, hw⟩
theorem RunQ.end0 (hres : fn.results = #[]) (hR : R (.tuple #[]) h L) : RunQ n B .normal E h L (bodyPost P fn (CtrPost B R)) := fun a w ha hw =>
  ⟨ha.defers, .tuple #[], by simp [results, hres], _, h, L, rfl, hR, hw⟩
/-- What a result cell holds. -/
def CellV (P : Program) (h : GH) (L : Own) (t : TypeId) (b : Nat) (v : Value) : Prop := ∀ B w, Step B h L w → (loadVar t ⟨b, 0, none⟩).run P w = .ok v w
theorem CellV.many {b s : Nat} {c : Array Value} {T : TypeId} {fz : Nat × Nat} {R : Own} (hi1 : ManyCells P t s) (hm : Take [(b, Obj.cells c T fz)] L R) (hl : Nat.beq c.size s = true) : CellV P h L t b (.agg c) := fun B w hw => by
  have := run_loadVar_many (P := P) (t := t) (w := w) (b := b) (o := 0) (vs := c.toList) (by simpa using Nat.eq_of_beq_eq_true hl) (fun j v hj => (ReadsAll.whole (h := h) hm.mem j v hj).cell hw) hi1
  simpa using this
theorem CellV.one {b : Nat} {c : Array Value} {T : TypeId} {fz : Nat × Nat} {R : Own} (ho : OneCell P t) (hm : Take [(b, Obj.cells c T fz)] L R) (hl : c[0]? = some v) : CellV P h L t b v := fun B w hw => by
  obtain ⟨dd, h1, h2⟩ := ho.out
  have hc : w.cell? ⟨b, 0, none⟩ = some v := (Reads.cell (h := h) hw (.inr ⟨c, T, fz, hm.mem, hl⟩))
  have hagg : (isAgg t).run P w = .ok false w := by
    unfold isAgg
    simp only [Sem.run_bind, run_underlying h1, Result.andThen_ok]
    cases dd <;> simp_all
  simp [loadVar, hagg, hc]
theorem RunQ.retc1 {a1 b : Nat} (hres : fn.results = #[.cell a1 t]) (h1 : eget E a1 = some (.pointer (some ⟨b, 0, none⟩))) (hc : CellV P h L t b v) (hR : R v h L) : RunQ n B .ret E h L (bodyPost P fn (CtrPost B R)) := fun a w ha hw =>
  ⟨ha.defers, v, by simp [results, hres, ha.get _ _ h1, asAddr, hc B w hw], v, h, L, rfl, hR, hw⟩
theorem RunQ.retc2 {a1 a2 b : Nat} (hres : fn.results = #[.cell a1 t, .tmp a2]) (h1 : eget E a1 = some (.pointer (some ⟨b, 0, none⟩))) (hc : CellV P h L t b v) (h2 : eget E a2 = some u) (hR : R (.tuple #[v, u]) h L) : RunQ n B .ret E h L (bodyPost P fn (CtrPost B R)) := fun a w ha hw =>
  ⟨ha.defers, _, by simp [results, hres, ha.get _ _ h1, asAddr, hc B w hw, ha.get _ _ h2], _, h, L, rfl, hR, hw⟩
theorem RunQ.retc3 {a1 a2 a3 b : Nat} {v3 : Value} (hres : fn.results = #[.cell a1 t, .tmp a2, .tmp a3]) (h1 : eget E a1 = some (.pointer (some ⟨b, 0, none⟩))) (hc : CellV P h L t b v) (h2 : eget E a2 = some u) (h3 : eget E a3 = some v3) (hR : R (.tuple #[v, u, v3]) h L) : RunQ n B .ret E h L (bodyPost P fn (CtrPost B R)) := fun a w ha hw =>
  ⟨ha.defers, _, by simp [results, hres, ha.get _ _ h1, asAddr, hc B w hw, ha.get _ _ h2, ha.get _ _ h3], _, h, L, rfl, hR, hw⟩
theorem RunQ.retcc {a1 a2 b b2 : Nat} (hres : fn.results = #[.cell a1 t, .cell a2 t']) (h1 : eget E a1 = some (.pointer (some ⟨b, 0, none⟩))) (hc : CellV P h L t b v) (h2 : eget E a2 = some (.pointer (some ⟨b2, 0, none⟩))) (hc2 : CellV P h L t' b2 u) (hR : R (.tuple #[v, u]) h L) : RunQ n B .ret E h L (bodyPost P fn (CtrPost B R)) := fun a w ha hw =>
  ⟨ha.defers, _, by simp [results, hres, ha.get _ _ h1, asAddr, hc B w hw, ha.get _ _ h2, hc2 B w hw], _, h, L, rfl, hR, hw⟩
end
end Go.Proofs.YtcckofgleghbgaaDoor.Sx
