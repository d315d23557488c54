/- Symbolic execution, part e: more operations; chains of tests. -/
import Derived.Test.YtcckofgleghbgaaDoorSxd
import Derived.Test.YtcckofgleghbgaaDoorTy
namespace Go.Proofs.YtcckofgleghbgaaDoor.Sx
open Go
section
variable {P : Program} {B : Base} {E : Env} {A : Bool} {h h' : GH} {L L' R0 : Own} {Q : Post} {n : Nat} {ops : Array Oper} {l : List Oper}
variable {d : Option Tmp} {dd : Nat} {ty : TypeId} {pos : String} {af : Array Edge} {g : Option (Nat × Bool)} {x y z : Operand} {v u : Value} {t t' : TypeId}

/-! ### A chain of tests 'x == c1 || x == c2 || ..' -/
def Chain (P : Program) (n : Nat) (B : Base) (c : Code) (E : Env) (h : GH) (L : Own) (t4 : Nat) (b : Bool) : Prop :=
  ∀ Q : Post, RunQ n B .normal ((t4, .bool b) :: E) h L Q → Run P n B c E h L Q
theorem EnvLe.refl_cons {E' : Env} (hl : ∀ t v, eget E t = some v → eget E' t = some v) : ∀ {a : Act}, EnvOk n E' a → EnvOk n E a := fun ha => ⟨ha.defers, ha.size, fun t v hv => ha.get t v (hl t v hv)⟩
theorem EnvOk.shadow {a : Act} {t4 t5 : Nat} {v u u' : Value} (h5 : (eget E t5).isNone = true) (ha : EnvOk n ((t4, v) :: (t5, u) :: E) a) (hu : v = u') : EnvOk n ((t4, u') :: E) a := by
  subst hu
  refine ⟨ha.defers, ha.size, fun t w hw => ha.get t w ?_⟩
  rw [eget_cons] at hw ⊢
  split
  · rename_i e; rw [if_pos e] at hw; exact hw
  · rename_i e
    rw [if_neg e] at hw
    rw [eget_cons, if_neg]
    · exact hw
    · intro e5; subst e5; rw [hw] at h5; cases h5
section
variable {id t4 t5 : Nat} {k : IntKind} {m c : Int} {ty5 ty4 : TypeId} {pos5 pos4 : String} {af5 af4 : Array Edge} {rest : Code} {b : Bool}
theorem Chain.last (h5n : Nat.blt t5 n = true) (h4n : Nat.blt t4 n = true) (hx : oev E x = some (.int k m)) (hy : oev E y = some (.int k c)) (h5 : (eget E t5).isNone = true) :
    Chain P n B (.region id [⟨some t5, .binOp .eql t x y t', ty5, pos5, af5, none⟩, ⟨some t4, .assign (.tmp t5), ty4, pos4, af4, none⟩].toArray false) E h L t4 (m == c) := fun Q hq => by
  refine Run.region' ?_
  refine RunL.pure rfl h5n (OpG.plain rfl (OpP.bin (Val.of hx) (Val.of hy) rfl)) ?_
  refine RunL.pure rfl h4n (OpG.plain rfl (OpP.assign (Val.of (by simp only [oev, eget_cons, if_pos]; rfl)))) ?_
  refine RunL.nil fun a w ha hw => hq a w (ha.shadow h5 rfl) hw
theorem Chain.step (h5n : Nat.blt t5 n = true) (h4n : Nat.blt t4 n = true) (hx : oev E x = some (.int k m)) (hy : oev E y = some (.int k c)) (h5 : (eget E t5).isNone = true) (h4 : (eget E t4).isNone = true) (hr : Chain P n B rest E h L t4 b) :
    Chain P n B (.seq (.region id [⟨some t5, .binOp .eql t x y t', ty5, pos5, af5, none⟩, ⟨some t4, .assign (.tmp t5), ty4, pos4, af4, none⟩].toArray false) (.cond (.tmp t4) .skip rest)) E h L t4 (m == c || b) := fun Q hq => by
  refine Run.seq (Chain.last h5n h4n hx hy h5 _ (RunQ.then_normal ?_))
  refine Run.cond (t := m == c) (by simp only [oev, eget_cons, if_pos]) (fun e => ?_) (fun e => ?_)
  · refine Run.skip ?_
    simpa only [e, Bool.true_or] using hq
  · have : Run P n B rest E h L Q := hr Q (by simpa only [e, Bool.false_or] using hq)
    intro a w ha hw
    refine this a w ⟨ha.defers, ha.size, fun t v hv => ha.get t v ?_⟩ hw
    rw [eget_cons, if_neg]
    · exact hv
    · intro e4; subst e4; rw [hv] at h4; cases h4
end
theorem Run.chain {c : Code} {t4 : Nat} {b : Bool} (hc : Chain P n B c E h L t4 b) (hq : RunQ n B .normal ((t4, .bool b) :: E) h L Q) : Run P n B c E h L Q := hc Q hq

theorem Step.keepL' {w : World} (ht : Take L' L R0) (hw : Step B h L w) : Step B h L' w := (hw.perm ht).sublist (List.sublist_append_left _ _)
theorem OwnSl.built {b m size : Nat} {e : TypeId} {c : List Value} (hl : c.length = m * size) (hm : m ≤ maxLen) : OwnSl e size ⟨some ⟨b, 0, none⟩, m, m⟩ c [(b, .cells c.toArray e)] :=
  .inr ⟨b, c.toArray, rfl, rfl, Nat.le_refl _, hm, by simpa using hl, by simp [← hl], hl⟩
theorem RunQ.freezeB {ex : Exit} {b m size : Nat} {e : TypeId} {c : List Value} (ht : Take [(b, .cells c.toArray e)] L R0) (hl : c.length = m * size) (hm : m ≤ maxLen)
    (hk : ∀ h', GH.le h h' → IsSl h' size ⟨some ⟨b, 0, none⟩, m, m⟩ c → RunQ n B ex E h' R0 Q) : RunQ n B ex E h L Q := RunQ.freezeSl (OwnSl.built hl hm) ht hk
theorem RunL.freezeB {b m size : Nat} {e : TypeId} {c : List Value} (ht : Take [(b, .cells c.toArray e)] L R0) (hl : c.length = m * size) (hm : m ≤ maxLen)
    (hk : ∀ h', GH.le h h' → IsSl h' size ⟨some ⟨b, 0, none⟩, m, m⟩ c → RunL P n B ops l E h' R0 Q) : RunL P n B ops l E h L Q := RunL.freezeSl (OwnSl.built hl hm) ht hk
/-! ### Arrays -/
theorem OpP.indexArr {b o m i s : Nat} {k : IntKind} {e : TypeId} (hx : Val E A x (.pointer (some ⟨b, o, none⟩))) (hy : Val E A y (.int k (i : Int))) (hi : A = true → i < m) (hu : ArrayIs P t m e) (hs : SizeIs P e s) :
    OpP P B E A h L ⟨d, .indexAddr t x y, ty, pos, af, g⟩ (.pointer (some ⟨b, o + i * s, none⟩)) :=
  .of_run fun hA _ _ w ha _ => by
    obtain ⟨inf, h1, h2⟩ := hs.out
    have hadd : (⟨b, o, none⟩ : Addr).add (i * s) = ⟨b, o + i * s, none⟩ := by unfold Addr.add; split <;> simp_all
    have := hi hA
    simp [execOp, hx hA _ _ ha, hy hA _ _ ha, Instr.indexAt, Instr.sureAddr, run_underlying hu.out, sizeOf, typeInfo, h1, h2, asIntOf, hadd, this]
theorem OpP.indexArrI {b o m s : Nat} {i : Int} {k : IntKind} {e : TypeId} (hx : Val E A x (.pointer (some ⟨b, o, none⟩))) (hy : Val E A y (.int k i)) (hi0 : A = true → 0 ≤ i) (hi : A = true → i < (m : Int)) (hu : ArrayIs P t m e) (hs : SizeIs P e s) :
    OpP P B E A h L ⟨d, .indexAddr t x y, ty, pos, af, g⟩ (.pointer (some ⟨b, o + i.toNat * s, none⟩)) :=
  fun hA => by
    obtain ⟨j, rfl⟩ := Int.eq_ofNat_of_zero_le (hi0 hA)
    exact OpP.indexArr hx hy (fun hA => by have := hi hA; omega) hu hs hA

theorem OpP.buildArr {parts : List (Nat × Operand)} {vals : List (Nat × Value)} {m s : Nat} {e : TypeId} {zero : Array Value} {out : List Value} (hu : ArrayIs P t m e) (hs : SizeIs P e s) (hz : ZeroIs P t (.agg zero)) (hv : evp E parts = some vals)
    (hf : fillN (fun i => some (i * s, s)) zero.toList vals = some out) : OpP P B E A h L ⟨d, .build t parts.toArray, ty, pos, af, g⟩ (.agg out.toArray) :=
  .of_run fun _ _ _ w ha _ => by
    obtain ⟨i, h1, h2⟩ := hz.out
    obtain ⟨j, h3, h4⟩ := hs.out
    have hfi := fillN_spec hf
    have hev := evp_spec hv ha
    simp only [execOp, Instr.build, zeroValue, sizeOf, typeInfo, Sem.run_bind, run_program, Result.andThen_ok, h1, Sem.run_pure, h2, run_underlying hu.out, h3, h4, Value.cells, List.map_toArray, hev]
    simp only [Array.toArray_toList] at hfi
    simp only [hfi, Sem.run_pure, Result.andThen_ok]

theorem OpXG.buildF {parts : List (Nat × Operand)} {vals : List (Nat × Value)} {m s : Nat} {e : TypeId} {zv : Value} {out : List Value} (hu : Under P t (.slice e)) (hs : SizeIs P e s) (hz : ZeroIs P e zv)
    (hv : evp E parts = some vals) (hs0 : Nat.beq zv.cells.size s = true) (hpos : Nat.blt 0 s = true) (hm : Nat.ble (m * s) 16777216 = true)
    (hf : fillN (fun i => some (i * s, s)) (repZ zv.cells.toList m) vals = some out) (hl : out.length = m * s) :
    OpXG P B ops E h L ⟨d, .buildSlice t m parts.toArray, ty, pos, af, none⟩ (fun v h' L' => L' = L ∧ ∃ b, v = .slice (some ⟨b, 0, none⟩) m m ∧ IsSl h' s ⟨some ⟨b, 0, none⟩, m, m⟩ out) :=
  OpXG.of_run rfl fun n a w ha hw => by
    have hm16 : m ≤ maxLen := by
      have h1 : m * s ≤ 16777216 := Nat.le_of_ble_eq_true hm
      have h2 : 1 ≤ s := Nat.le_of_ble_eq_true hpos
      have : m ≤ m * s := Nat.le_mul_of_pos_right m h2
      simp only [maxLen]; omega
    have hblk := run_buildSlice (n := n) (ty := ty) (d := d) (pos := pos) (af := af) (g := none) hu hs hz hv hs0 hpos hm hf ha (w := w)
    have hw1 := hw.alloc (.cells out.toArray e)
    obtain ⟨h', h1, h2, h3⟩ := Step.freezeSl (L := L) (OwnSl.built (b := w.heap.size) (e := e) (size := s) hl hm16) hw1
    exact ⟨_, _, h', L, hblk, h1, ⟨rfl, _, rfl, h2⟩, h3⟩
theorem Stage.goto {ks ks' dn' : List Bool} {vs : List Value} {e : Nat} (vs' : List Value) (ha : Agree ks vs vs') (hv : vs'[e]? = some v) (hs : Stage P n B ops E h L ks' dn' vs' Q) : ∃ vs', Agree ks vs vs' ∧ vs'[e]? = some v ∧ Stage P n B ops E h L ks' dn' vs' Q := ⟨vs', ha, hv, hs⟩

/-! ### min, max, slices of slices, maps -/
theorem OpP.min2 {k : IntKind} {a b : Int} {tys : Array TypeId} (hx : Val E A x (.int k a)) (hy : Val E A y (.int k b)) : OpP P B E A h L ⟨d, .call ⟨.builtin .min, #[x, y], tys⟩, ty, pos, af, g⟩ (.int k (min a b)) :=
  .of_run fun hA _ _ w ha _ => by
    have e : (if b < a then b else a) = min a b := by rw [Int.min_def]; split <;> split <;> omega
    simp [e, execOp, hx hA _ _ ha, hy hA _ _ ha, resolve, invoke, builtin, Builtin.min_, Builtin.min2]
theorem OpP.max2 {k : IntKind} {a b : Int} {tys : Array TypeId} (hx : Val E A x (.int k a)) (hy : Val E A y (.int k b)) : OpP P B E A h L ⟨d, .call ⟨.builtin .max, #[x, y], tys⟩, ty, pos, af, g⟩ (.int k (max a b)) :=
  .of_run fun hA _ _ w ha _ => by
    have e : (if a < b then b else a) = max a b := by rw [Int.max_def]; split <;> split <;> omega
    simp [e, execOp, hx hA _ _ ha, hy hA _ _ ha, resolve, invoke, builtin, Builtin.max_, Builtin.max2]
theorem run_sliceBound {k : IntKind} {i c : Nat} {code : BoundsCode} {w : World} (hi : i ≤ c) : (Instr.sliceBound (.int k (i : Int)) c code).run P w = .ok i w := by
  simp [Instr.sliceBound, asIntOf, hi]
/-- The address of a slice that begins l elements further on. -/
def slAt (p : Option Addr) (m l size : Nat) : Option Addr := if m = l then p else p.map (·.add (l * size))
theorem OpP.sliceLH {p : Option Addr} {m cap i j s : Nat} {k k' : IntKind} {e : TypeId} (hx : Val E A x (.slice p m cap)) (hy : Val E A y (.int k (i : Int))) (hz : Val E A z (.int k' (j : Int))) (hi : A = true → i ≤ j) (hj : A = true → j ≤ cap) (hu : Under P t (.slice e)) (hs : SizeIs P e s) :
    OpP P B E A h L ⟨d, .slice t x (some y) (some z) none, ty, pos, af, g⟩ (.slice (slAt p cap i s) (j - i) (cap - i)) :=
  .of_run fun hA _ _ w ha _ => by
    obtain ⟨inf, h1, h2⟩ := hs.out
    have hi' := hi hA
    have hj' := hj hA
    simp only [execOp, hx hA _ _ ha, Option.map_some, Option.map_none, hy hA _ _ ha, hz hA _ _ ha, Instr.sliceAt, Instr.slice, Instr.sliceBounds, Sem.run_bind, run_underlying hu.out, Result.andThen_ok, Sem.run_pure, run_sliceBound hj', run_sliceBound hi', sizeOf, typeInfo, run_program, h1, h2, slAt]
theorem OpP.sliceHi {p : Option Addr} {m cap j : Nat} {k' : IntKind} {e : TypeId} (hx : Val E A x (.slice p m cap)) (hz : Val E A z (.int k' (j : Int))) (hj : A = true → j ≤ cap) (hu : Under P t (.slice e)) (hs : ∃ s, SizeIs P e s) :
    OpP P B E A h L ⟨d, .slice t x none (some z) none, ty, pos, af, g⟩ (.slice p j cap) :=
  .of_run fun hA _ _ w ha _ => by
    obtain ⟨s, hs⟩ := hs
    obtain ⟨inf, h1, h2⟩ := hs.out
    have hj' := hj hA
    have hp : (if cap = 0 then p else p.map fun a => a.add (0 * s)) = p := by
      split
      · rfl
      · cases p <;> simp [Addr.add]
    simp only [execOp, hx hA _ _ ha, Option.map_some, Option.map_none, hz hA _ _ ha, Instr.sliceAt, Instr.slice, Instr.sliceBounds, Sem.run_bind, run_underlying hu.out, Result.andThen_ok, Sem.run_pure, run_sliceBound hj', sizeOf, typeInfo, run_program, h1, h2, hp, Nat.sub_zero]
theorem OpP.sliceLo {p : Option Addr} {m cap i s : Nat} {k : IntKind} {e : TypeId} (hx : Val E A x (.slice p m cap)) (hy : Val E A y (.int k (i : Int))) (hi : A = true → i ≤ m) (hu : Under P t (.slice e)) (hs : SizeIs P e s) :
    OpP P B E A h L ⟨d, .slice t x (some y) none none, ty, pos, af, g⟩ (.slice (slAt p cap i s) (m - i) (cap - i)) :=
  .of_run fun hA _ _ w ha _ => by
    obtain ⟨inf, h1, h2⟩ := hs.out
    have hi' := hi hA
    simp only [execOp, hx hA _ _ ha, Option.map_some, Option.map_none, hy hA _ _ ha, Instr.sliceAt, Instr.slice, Instr.sliceBounds, Sem.run_bind, run_underlying hu.out, Result.andThen_ok, Sem.run_pure, run_sliceBound hi', sizeOf, typeInfo, run_program, h1, h2, slAt]
theorem OpP.sliceHiI {p : Option Addr} {m cap : Nat} {j : Int} {k' : IntKind} {e : TypeId} (hx : Val E A x (.slice p m cap)) (hz : Val E A z (.int k' j)) (hj0 : A = true → 0 ≤ j) (hj : A = true → j ≤ (cap : Int)) (hu : Under P t (.slice e)) (hs : ∃ s, SizeIs P e s) :
    OpP P B E A h L ⟨d, .slice t x none (some z) none, ty, pos, af, g⟩ (.slice p j.toNat cap) := fun hA => by
  obtain ⟨i, rfl⟩ := Int.eq_ofNat_of_zero_le (hj0 hA)
  exact OpP.sliceHi hx hz (fun hA => by have := hj hA; omega) hu hs hA
theorem OpP.sliceLoI {p : Option Addr} {m cap s : Nat} {i : Int} {k : IntKind} {e : TypeId} (hx : Val E A x (.slice p m cap)) (hy : Val E A y (.int k i)) (hi0 : A = true → 0 ≤ i) (hi : A = true → i ≤ (m : Int)) (hu : Under P t (.slice e)) (hs : SizeIs P e s) :
    OpP P B E A h L ⟨d, .slice t x (some y) none none, ty, pos, af, g⟩ (.slice (slAt p cap i.toNat s) (m - i.toNat) (cap - i.toNat)) := fun hA => by
  obtain ⟨j, rfl⟩ := Int.eq_ofNat_of_zero_le (hi0 hA)
  exact OpP.sliceLo hx hy (fun hA => by have := hi hA; omega) hu hs hA
/-- A slice of a slice over cells that nobody writes. -/
theorem IsSl.cut {size : Nat} {s : Sl} {xs : List Value} (hs : IsSl h size s xs) (i j : Nat) (hij : i ≤ j) (hj : j ≤ s.n) : IsSl h size ⟨slAt s.p s.c i size, j - i, s.c - i⟩ ((xs.drop (i * size)).take ((j - i) * size)) := by
  have hlen := hs.len
  have hle := hs.le
  refine ⟨?_, by simp; omega, by have := hs.max; simp; omega, ?_, ?_, ?_⟩
  · rw [List.length_take, List.length_drop, hlen, ← Nat.sub_mul]
    exact Nat.min_eq_left (Nat.mul_le_mul_right _ (by omega))
  · rcases hs.cells with h0 | ⟨b, o, hp, hc⟩
    · left; simp; omega
    · by_cases hci : s.c = i
      · left; simp; omega
      · right
        have hadd : (⟨b, o, none⟩ : Addr).add (i * size) = ⟨b, o + i * size, none⟩ := by unfold Addr.add; split <;> simp_all
        refine ⟨b, o + i * size, by simp [slAt, hci, hp, hadd], fun k v hv => ?_⟩
        rw [List.getElem?_take] at hv
        split at hv
        · rw [List.getElem?_drop] at hv
          have := hc (i * size + k) v hv
          rwa [← Nat.add_assoc] at this
        · cases hv
  · intro hn
    simp only [slAt] at hn
    have : s.p = none := by
      split at hn
      · exact hn
      · cases hp : s.p <;> simp_all
    have := hs.nil this
    simp; omega
  · intro a ha hc
    simp only [slAt] at ha
    simp only at hc
    split at ha
    · omega
    · obtain ⟨a0, h0, rfl⟩ := Option.map_eq_some_iff.1 ha
      unfold Addr.add
      split
      · exact hs.spot a0 h0 (by omega)
      · rfl
theorem OpP.lenMap {b : Nat} {es : Array MapEntry} {clock : Nat} {R : Own} {k e : TypeId} (hx : Val E A x (.map (some b))) (ht : Take [(b, .map es clock)] L R) (hu : Under P t (.map k e)) :
    OpP P B E A h L ⟨d, .call ⟨.builtin .len, #[x], #[t]⟩, ty, pos, af, g⟩ (.int .i64 (es.size : Int)) :=
  .of_run fun hA _ _ w ha hw => by
    have := hw.own _ ht.mem
    simp only at this
    simp [execOp, hx hA _ _ ha, resolve, invoke, builtin, Builtin.len_, run_underlying hu.out, goInt, getObj, Sem.run, this]
theorem RunQ.keepL {ex : Exit} (hL : Take L' L R0) (hq : RunQ n B ex E h L' Q) : RunQ n B ex E h L Q := fun a w ha hw => hq a w ha (Step.keepL' hL hw)
/-! ### Loops and cuts, the blocks in whatever order -/
theorem Step.keepL {w : World} (ht : Take L' L R0) (hw : Step B h L w) : Step B h L' w := (hw.perm ht).sublist (List.sublist_append_left _ _)
theorem Run.loopT {E' : Env} {c : Code} (J : Nat → Env → GH → Own → Prop) (m : Nat) (hj : J m E' h L') (hE : EnvLe E' E) (hL : Take L' L R0)
    (round : ∀ m E h L, J m E h L → Run P n B c E h L (Exit.then (LoopK n B J m) Q)) : Run P n B (.loop c) E h L Q := fun a w ha hw =>
  Run.loop (L := L') J m hj hE (List.Sublist.refl _) round a w ha (Step.keepL hL hw)
theorem RunQ.againT {E' : Env} {J : Nat → Env → GH → Own → Prop} {m : Nat} (m' : Nat) (hm : m' < m) (hj : J m' E' h L') (hE : EnvLe E' E) (hL : Take L' L R0) :
    RunQ n B .normal E h L (Exit.then (LoopK n B J m) Q) := fun _ _ ha hw => ⟨m', hm, E', h, L', hj, ha.weaken hE, Step.keepL hL hw⟩
theorem RunQ.cutT {E' : Env} {J : Env → GH → Own → Prop} (hj : J E' h L') (hE : EnvLe E' E) (hL : Take L' L R0) :
    RunQ n B .normal E h L (Exit.then (fun a w => ∃ E h L, J E h L ∧ EnvOk n E a ∧ Step B h L w) Q) := fun _ _ ha hw => ⟨E', h, L', hj, ha.weaken hE, Step.keepL hL hw⟩
theorem RunQ.keepT {E' : Env} {ex : Exit} (hE : EnvLe E' E) (hL : Take L' L R0) (hq : RunQ n B ex E' h L' Q) : RunQ n B ex E h L Q := fun a w ha hw => hq a w (ha.weaken hE) (Step.keepL hL hw)
theorem Run.keepT {E' : Env} {c : Code} (hE : EnvLe E' E) (hL : Take L' L R0) (hq : Run P n B c E' h L' Q) : Run P n B c E h L Q := fun a w ha hw => hq a w (ha.weaken hE) (Step.keepL hL hw)
end
end Go.Proofs.YtcckofgleghbgaaDoor.Sx
