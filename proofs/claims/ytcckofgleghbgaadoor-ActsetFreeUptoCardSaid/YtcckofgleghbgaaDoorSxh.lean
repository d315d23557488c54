/- More operations: maps held against nil. -/
import Derived.Test.YtcckofgleghbgaaDoorRowb
import Derived.Lib.BufferRead
import Derived.Scope
namespace Go.Proofs.YtcckofgleghbgaaDoor.Sx
open Go
theorem OwnSl.max {e : TypeId} {size : Nat} {s : Sl} {xs : List Value} {N : Own} (ho : OwnSl e size s xs N) : s.n ≤ s.c ∧ s.c ≤ maxLen := by
  rcases ho with ⟨rfl, _, _⟩ | ⟨b, cur, _, _, h1, h2, _⟩
  · exact ⟨Nat.le_refl _, by simp [maxLen]⟩
  · exact ⟨h1, h2⟩
theorem Ctr.weak {P : Program} {f : FuncId} {args : Array Value} {h : GH} {L : Own} {R R' : Value → GH → Own → Prop}
    (hs : Ctr P f args h L R) (hr : ∀ v h' N, GH.le h h' → R v h' N → ∃ N' R0, Take N' N R0 ∧ R' v h' N') : Ctr P f args h L R' := fun w hw =>
  (hs w hw).mono fun _ _ ⟨v, h', N, he, r, st⟩ => by
    obtain ⟨N', R0, ht, hr'⟩ := hr v h' N st.gle r
    exact ⟨v, h', N', he, hr', Step.keepL' ht st⟩
theorem Ctr.forget {P : Program} {f : FuncId} {args : Array Value} {h : GH} {L : Own} {R : Value → GH → Prop} (hs : Ctr P f args h L fun r h' _ => R r h') : Ctr P f args h L fun r h' N => N = [] ∧ R r h' :=
  hs.weak fun _ _ N _ hr => ⟨[], N, Take.nothing, rfl, hr⟩
/-- What is given back, nobody writes. -/
theorem Ctr.freeze {P : Program} {f : FuncId} {args : Array Value} {h : GH} {L : Own} {R R' : Value → GH → Own → Prop}
    (hs : Ctr P f args h L R) (hr : ∀ v h' N, GH.le h h' → R v h' N → ∃ (e : TypeId) (size : Nat) (s : Sl) (xs : List Value) (N' R0 : Own), OwnSl e size s xs N' ∧ Take N' N R0 ∧ ∀ h'', GH.le h' h'' → IsSl h'' size s xs → R' v h'' R0) : Ctr P f args h L R' := fun w hw =>
  (hs w hw).mono fun _ _ ⟨v, h', N, he, r, st⟩ => by
    obtain ⟨e, size, s, xs, N', R0, ho, ht, hr'⟩ := hr v h' N st.gle r
    obtain ⟨h'', h1, h2, h3⟩ := Step.freezeSl ho (st.perm ht)
    exact ⟨v, h'', R0, he, hr' h'' h1 h2, h3⟩
section
variable {P : Program} {B : Base} {E : Env} {A : Bool} {h : GH} {L : Own} {d : Option Nat} {t t' ty : TypeId} {x y : Operand} {pos : String} {af : Array Edge} {g : Option (Nat × Bool)}
theorem equalIn_map_nil (w : World) (n : Nat) {t k e : TypeId} (p : Option Nat) (hu : P.underlying t = some (.map k e)) : (Op.equalIn (n + 1) t (.map p) (.map none)).run P w = .ok p.isNone w := by
  cases p <;> simp [Op.equalIn, run_underlying hu]
theorem OpP.eql_map {p : Option Nat} {k e : TypeId} (hx : Val E A x (.map p)) (hy : Val E A y (.map none)) (hu : Under P t (.map k e)) : OpP P B E A h L ⟨d, .binOp .eql t x y t', ty, pos, af, g⟩ (.bool p.isNone) :=
  .of_run fun hA _ _ w ha _ => by
    have hr : (binOp .eql t (.map p) (.map none)).run P w = .ok (.bool p.isNone) w := by
      have h1 := equalIn_map_nil (P := P) w 9999 p hu.out
      simp only [binOp]
      simp [show Op.equal t (.map p) (.map none) = Op.equalIn (9999 + 1) t (.map p) (.map none) from rfl, h1]
    simp only [execOp, hx hA _ _ ha, hy hA _ _ ha]
    simp [eqGuard, hr]
theorem OpP.to {o : Oper} {v u : Value} (ho : OpP P B E A h L o v) (e : v = u) : OpP P B E A h L o u := e ▸ ho
theorem slAt_one (b c i : Nat) : slAt (some ⟨b, 0, none⟩) c i 1 = some ⟨b, if c = i then 0 else i, none⟩ := by
  unfold slAt
  split
  · rfl
  · rename_i hne
    simp only [Option.map_some, Nat.mul_one, Addr.add, Nat.zero_add]
    split
    · rename_i h0; subst h0; rfl
    · rfl
theorem OpP.sliceHM {p : Option Addr} {m cap s : Nat} {j k : Nat} {k2 k3 : IntKind} {e : TypeId} {z x2 : Operand} (hx : Val E A x (.slice p m cap)) (hz : Val E A z (.int k2 (j : Int))) (hm : Val E A x2 (.int k3 (k : Int))) (h2 : A = true → j ≤ k) (h3 : A = true → k ≤ cap) (hu : Under P t (.slice e)) (hs : SizeIs P e s) :
    OpP P B E A h L ⟨d, .slice t x none (some z) (some x2), ty, pos, af, g⟩ (.slice p j k) :=
  .of_run fun hA _ _ w ha _ => by
    obtain ⟨inf, g1, g2⟩ := hs.out
    have h2' := h2 hA
    have h3' := h3 hA
    have hp : (if k = 0 then p else p.map fun a => a.add (0 * s)) = p := by
      split
      · rfl
      · cases p <;> simp [Addr.add]
    simp only [execOp, hx hA _ _ ha, Option.map_some, Option.map_none, hz hA _ _ ha, hm hA _ _ ha, Instr.sliceAt, Instr.slice, Instr.sliceBounds, Sem.run_bind, run_underlying hu.out, Result.andThen_ok, Sem.run_pure, run_sliceBound h2', run_sliceBound h3', sizeOf, typeInfo, run_program, g1, g2, hp, Nat.sub_zero]
/-- An element of a slice that has one where the operation runs. -/
theorem OpP.indexAt {s : Sl} {b o i size : Nat} {k : IntKind} {e : TypeId} (hx : Val E A x s.v) (hy : Val E A y (.int k (i : Int))) (hp : A = true → s.p = some ⟨b, o, none⟩) (hi : A = true → i < s.n) (hu : Under P t (.slice e)) (hs : SizeIs P e size) :
    OpP P B E A h L ⟨d, .indexAddr t x y, ty, pos, af, g⟩ (.pointer (some ⟨b, o + i * size, none⟩)) := fun hA =>
  OpP.indexSl (m := s.n) (cap := s.c) (fun hA => by have := hx hA; rw [show s.v = .slice (some ⟨b, o, none⟩) s.n s.c by simp [Sl.v, hp hA]] at this; exact this) hy hi hu hs hA
theorem OpP.indexAtI {s : Sl} {b o size : Nat} {i : Int} {k : IntKind} {e : TypeId} (hx : Val E A x s.v) (hy : Val E A y (.int k i)) (hp : A = true → s.p = some ⟨b, o, none⟩) (hi : A = true → 0 ≤ i ∧ i < (s.n : Int)) (hu : Under P t (.slice e)) (hs : SizeIs P e size) :
    OpP P B E A h L ⟨d, .indexAddr t x y, ty, pos, af, g⟩ (.pointer (some ⟨b, o + i.toNat * size, none⟩)) := fun hA => by
  obtain ⟨j, rfl⟩ := Int.eq_ofNat_of_zero_le (hi hA).1
  exact OpP.indexAt hx hy hp (fun hA => by have := hi hA; omega) hu hs hA
/-- Where a slice that is not empty stands. -/
theorem IsSl.spots {size : Nat} {s : Sl} {xs : List Value} (hs : IsSl h size s xs) : ∃ b o, (0 < s.n → s.p = some ⟨b, o, none⟩) ∧ Cells h b o xs := by
  rcases hs.cells with h0 | ⟨b, o, hp, hc⟩
  · refine ⟨0, 0, fun h1 => by omega, fun i v hi => ?_⟩
    have hl := hs.len
    rw [h0, Nat.zero_mul] at hl
    rw [List.eq_nil_of_length_eq_zero hl] at hi
    simp at hi
  · exact ⟨b, o, fun _ => hp, hc⟩
theorem OpP.add_u64 {a b : UInt64} (hx : Val E A x (u64v a)) (hy : Val E A y (u64v b)) : OpP P B E A h L ⟨d, .binOp .add t x y t', ty, pos, af, g⟩ (u64v (a + b)) :=
  OpP.bin hx hy (by
    simp only [intBin, wrap_u64]
    congr 2)
/-! ### Strings -/
theorem OpP.bytesStr {s : Sl} {l : List UInt8} {e : TypeId} (hx : Val E A x s.v) (hb : A = true → IsSl h 1 s (l.map u8v)) (hs : Under P t (.slice e)) (he : Under P e (.int .u8)) (hd : Under P t' .string) :
    OpP P B E A h L ⟨d, .convert t t' x, ty, pos, af, g⟩ (.string ⟨l.toArray⟩) :=
  .of_run fun hA _ _ w ha hw => by
    have hb := hb hA
    have hlen := hb.len
    simp only [List.length_map, Nat.mul_one] at hlen
    obtain ⟨p, n, c⟩ := s
    simp only at hlen
    subst hlen
    have key : (convert t t' (.slice p l.length c)).run P w = .ok (.string ⟨l.toArray⟩) w := by
      cases p with
      | none =>
        have hc := hb.nil rfl
        have hle := hb.le
        simp only at hc hle
        have h0 : l = [] := List.eq_nil_of_length_eq_zero (by omega)
        subst h0
        exact Lib.run_convert_nil_bytes (P := P) w t t' e c hs.out he.out hd.out
      | some a =>
        refine run_convert_bytes_back (P := P) w t t' e a c l hs.out he.out hd.out fun j hj => ?_
        rcases hb.cells with h0 | ⟨b, o, hp, hc⟩
        · simp only at h0; omega
        · cases hp
          have hrd : Reads h L b (o + j) (u8v l[j]) := .inl (hc j (u8v l[j]) (by simp [hj]))
          have := hrd.cell hw
          have hadd : (⟨b, o, none⟩ : Addr).add j = ⟨b, o + j, none⟩ := by unfold Addr.add; split <;> simp_all
          rw [hadd]; exact this
    have h1 := hx hA _ _ ha
    simp only [execOp, h1]
    simp [Sl.v, key]
theorem OpP.eql_string {a b : ByteArray} {dd : TypeDesc} (hx : Val E A x (.string a)) (hy : Val E A y (.string b)) (_hu : Under P t dd) : OpP P B E A h L ⟨d, .binOp .eql t x y t', ty, pos, af, g⟩ (.bool (a.toList == b.toList)) :=
  .of_run fun hA _ _ w ha _ => by
    simp only [execOp, hx hA _ _ ha, hy hA _ _ ha]
    simp [eqGuard, binOp_string_eql]
theorem OpP.neq_string {a b : ByteArray} {dd : TypeDesc} (hx : Val E A x (.string a)) (hy : Val E A y (.string b)) (_hu : Under P t dd) : OpP P B E A h L ⟨d, .binOp .neq t x y t', ty, pos, af, g⟩ (.bool (!(a.toList == b.toList))) :=
  .of_run fun hA _ _ w ha _ => by
    simp only [execOp, hx hA _ _ ha, hy hA _ _ ha]
    simp [eqGuard, binOp_string_neq]
theorem OpP.indexStr {s : ByteArray} {i : Nat} {k : IntKind} {c : UInt8} (hx : Val E A x (.string s)) (hy : Val E A y (.int k (i : Int))) (hi : A = true → s.data[i]? = some c) (hu : Under P t .string) : OpP P B E A h L ⟨d, .index t x y, ty, pos, af, g⟩ (u8v c) :=
  .of_run fun hA _ _ w ha _ => by
    obtain ⟨h1, h2⟩ := Array.getElem?_eq_some_iff.1 (hi hA)
    have hr := run_index_string (P := P) w t s k (i : Int) hu.out
    rw [dif_pos ⟨by omega, by have : s.size = s.data.size := rfl; omega⟩] at hr
    have h3 : s[(i : Int).toNat]'(by have : s.size = s.data.size := rfl; omega) = c := h2
    rw [h3] at hr
    simp only [execOp, hx hA _ _ ha, hy hA _ _ ha]
    simp [hr]
end
section
variable {P : Program} {B : Base} {E : Env} {h : GH} {L R0 : Own} {ops : Array Oper} {t ty : TypeId} {x y : Operand} {v : Value} {pos : String} {af : Array Edge}
/-- A store, in a region that is drawn. -/
theorem OpXG.store {b o s : Nat} {c : List Value} {c' : List Value} {T : TypeId} (hs : SizeIs P t s) (hx : oev E x = some (.pointer (some ⟨b, o, none⟩))) (hy : oev E y = some v) (ht : Take [(b, .cells c.toArray T)] L R0) (hv : Nat.beq v.cells.size s = true) (h1 : v.cells.toList.all Value.oneCell' = true) (hfit : Nat.ble (o + s) c.length = true) (hc : normL (putAt c o v.cells.toList) = some c') :
    OpXG P B ops E h L ⟨none, .store t x y, ty, pos, af, none⟩ (fun _ h' L' => h' = h ∧ L' = (b, .cells c'.toArray T) :: R0) := by
  intro n a w ha hw K Q hK
  simp only [Region.wanted, if_true]
  have hw' : Step B h ([(b, .cells c.toArray T)] ++ R0) w := hw.perm ht
  have hb := hw'.own _ (List.mem_append_left _ (List.mem_cons_self ..))
  have hr := run_storeVar (P := P) (t := t) (v := v) (o := o) hb (Nat.eq_of_beq_eq_true hv) (by simpa using Nat.le_of_ble_eq_true hfit) (fun u hu => List.all_eq_true.1 h1 u hu)
  rw [normL_eq] at hc
  cases hc
  unfold Oper.wp
  simp only [execOp, ha.eval hx, ha.eval hy, Instr.storeAt, Instr.sureAddr, Sem.run_bind, Sem.run_pure, Result.andThen_ok, hr, Oper.upon]
  exact hK undef _ _ _ (GH.le.refl h) ⟨rfl, rfl⟩ (Step.setRow hw' _)
end
section
variable {P : Program} {n : Nat} {B : Base} {E : Env} {h : GH} {L : Own} {Q : Post} {c : Code}
theorem Run.scope (hc : Run P n B c E h L (Exit.noGoto Q)) : Run P n B (.scope c) E h L Q := fun a w ha hw => wp_scope_straight (hc a w ha hw)
theorem RunQ.scope_normal (hr : RunQ n B .normal E h L Q) : RunQ n B .normal E h L (Exit.noGoto Q) := hr
theorem RunQ.scope_ret (hr : RunQ n B .ret E h L Q) : RunQ n B .ret E h L (Exit.noGoto Q) := hr
theorem RunQ.scope_exit {id : Nat} (hr : RunQ n B (.exit id) E h L Q) : RunQ n B (.exit id) E h L (Exit.noGoto Q) := hr
end
end Go.Proofs.YtcckofgleghbgaaDoor.Sx
