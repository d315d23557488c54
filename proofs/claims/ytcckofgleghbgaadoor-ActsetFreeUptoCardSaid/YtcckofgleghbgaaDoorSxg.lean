/- Symbolic execution, part g: make, copy, maps; slices of given data. -/
import Derived.Test.YtcckofgleghbgaaDoorSxf
import Derived.WalkSpells
namespace Go.Proofs.YtcckofgleghbgaaDoor.Sx
open Go
section
variable {P : Program} {B : Base} {E : Env} {A : Bool} {h h' : GH} {L L' R0 : Own} {Q : Post} {n : Nat} {ops : Array Oper} {l : List Oper}
variable {d : Option Tmp} {dd : Nat} {ty : TypeId} {pos : String} {af : Array Edge} {g : Option (Nat × Bool)} {x y z : Operand} {v u : Value} {t t' : TypeId}
theorem repZ_length (zero : List Value) : ∀ m, (repZ zero m).length = m * zero.length
  | 0 => by simp [repZ]
  | m + 1 => by simp [repZ, repZ_length zero m, Nat.succ_mul, Nat.add_comm]
theorem repZ_add (zero : List Value) : ∀ m k, repZ zero (m + k) = repZ zero m ++ repZ zero k
  | 0, k => by simp [repZ]
  | m + 1, k => by rw [Nat.succ_add, repZ, repZ, repZ_add zero m k, List.append_assoc]
theorem OwnSl.made {b m c size : Nat} {e : TypeId} {zero : List Value} (hz : zero.length = size) (hmc : m ≤ c) (hc : c ≤ maxLen) : OwnSl e size ⟨some ⟨b, 0, none⟩, m, c⟩ (repZ zero m) [(b, .cells (repZ zero c).toArray e)] := by
  refine .inr ⟨b, _, rfl, rfl, hmc, hc, by simp [repZ_length, hz], ?_, by simp [repZ_length, hz]⟩
  obtain ⟨k, rfl⟩ := Nat.exists_eq_add_of_le hmc
  rw [repZ_add]
  simp only
  rw [← hz, ← repZ_length zero m]
  exact List.take_left
theorem RunL.makeSlice {m c s bytes : Nat} {k1 k2 : IntKind} {e : TypeId} {zv : Value} (hu : Under P t (.slice e)) (hs : SizeIs P e s) (hb : BytesIs P e bytes) (hz : ZeroIs P e zv)
    (hn : Nat.blt dd n = true) (hx : oev E x = some (.int k1 (m : Int))) (hy : oev E y = some (.int k2 (c : Int))) (hzs : Nat.beq zv.cells.size s = true) (hpos : Nat.blt 0 s = true) (hmc : m ≤ c) (hc : c * bytes ≤ 140737488355328) (hc63 : c ≤ 9223372036854775807)
    (hk : ∀ b, RunL P n B ops l ((dd, .slice (some ⟨b, 0, none⟩) m c) :: E) h ((b, .cells (repZ zv.cells.toList c).toArray e) :: L) Q) : RunL P n B ops (⟨some dd, .makeSlice t x y, ty, pos, af, none⟩ :: l) E h L Q :=
  .newBlock rfl rfl hn (mk := fun b => .slice (some ⟨b, 0, none⟩) m c) (fun a w ha _ => by
    obtain ⟨i, h1, h2⟩ := hs.out
    obtain ⟨i2, h3, h4⟩ := hb.out
    obtain ⟨i3, h5, h6⟩ := hz.out
    obtain rfl : i2 = i := by rw [h1] at h3; exact (Option.some.inj h3).symm
    obtain rfl : i3 = i2 := by rw [h1] at h5; exact (Option.some.inj h5).symm
    have hs1 : zv.cells.size = s := Nat.eq_of_beq_eq_true hzs
    have hs2 : 0 < s := Nat.le_of_ble_eq_true hpos
    have w1 : IntKind.i64.wrap (m : Int) = (m : Int) := wrap64_in (by omega) (by omega)
    have w2 : IntKind.i64.wrap (c : Int) = (c : Int) := wrap64_in (by omega) (by omega)
    have hc' : ¬ (281474976710656 : Int) < (i3.bytes : Int) * (c : Int) := by
      rw [h4]
      have h7 : ((c * bytes : Nat) : Int) ≤ ((140737488355328 : Nat) : Int) := Int.ofNat_le.2 hc
      rw [Int.natCast_mul, Int.mul_comm] at h7
      generalize (bytes : Int) * (c : Int) = q at h7 ⊢
      omega
    have hzr : (Array.range (c * s)).map (fun i => zv.cells[i % zv.cells.size]!) = (repZ zv.cells.toList c).toArray := by
      have := zeros_eq (zero := zv.cells) (by omega) c
      rw [hs1] at this
      apply Array.ext'
      simp only [Array.toList_map, Array.toList_range, hs1]
      exact this
    have hlt : ¬ ((c : Int) < (m : Int)) := by omega
    have hneg : ¬ ((c : Int) < 0) := by omega
    have hneg2 : ¬ ((m : Int) < 0) := by omega
    by_cases h0 : c * s = 0
    · have hc0 : c = 0 := by rcases Nat.mul_eq_zero.1 h0 with h | h <;> omega
      subst hc0
      have hm0 : m = 0 := by omega
      subst hm0
      have w0 : IntKind.i64.wrap 0 = 0 := wrap64_in (by decide) (by decide)
      have hx' := ha.eval hx
      have hy' := ha.eval hy
      simp only [Int.natCast_zero] at hx' hy'
      simp [execOp, Instr.makeSlice, hx', hy', run_underlying hu.out, asInt, asIntOf, typeInfo, h1, w0, sizeOf, newRow, repZ]
      congr 2
      apply Array.ext'; simp
    · simp [execOp, Instr.makeSlice, ha.eval hx, ha.eval hy, run_underlying hu.out, asInt, asIntOf, typeInfo, h1, w1, w2, sizeOf, h2, newRow, h0, zeroValue, h6, hzr, hc', hlt, hneg, hneg2]
      ) hk
/-- copy into a whole owned block, from its first cell. -/
theorem RunL.copyT {b o m cap k s : Nat} {c : Array Value} {e T : TypeId} {r : Sl} {ys : List Value} (hu : Under P t (.slice e)) (hs : SizeIs P e s) (hn : Nat.blt dd n = true) (hx : oev E x = some (.slice (some ⟨b, o, none⟩) m cap)) (hy : oev E y = some r.v)
    (ht : Take [(b, .cells c T)] L R0) (hsrc : SrcAt h ([(b, .cells c T)] ++ R0) s r ys) (h1 : ∀ u ∈ ys.take (k * s), u.oneCell' = true) (hk0 : k = min r.n m) (hfit : o + k * s ≤ c.size)
    (hk : RunL P n B ops l ((dd, .int .i64 (k : Int)) :: E) h ((b, .cells (putAt c.toList o (ys.take (k * s))).toArray T) :: R0) Q) :
    RunL P n B ops (⟨some dd, .call ⟨.builtin .copy, #[x, y], #[t, t']⟩, ty, pos, af, none⟩ :: l) E h L Q := by
  intro a w ha hw
  refine wpList_plain rfl fun K hK => ?_
  have hw' : Step B h ([(b, .cells c T)] ++ R0) w := hw.perm ht
  have hb := hw'.own _ (List.mem_append_left _ (List.mem_cons_self ..))
  obtain ⟨i, h2, h3⟩ := hs.out
  have hmin : Nat.min r.n m = k := by rw [hk0]
  have hylen : (ys.take (k * s)).length = k * s := by
    rw [List.length_take, hsrc.1]
    exact Nat.min_eq_left (Nat.mul_le_mul_right _ (by omega))
  have hf : (Builtin.firstCells s k r.v).run P w = .ok (ys.take (k * s)).toArray w := by
    rcases Nat.eq_zero_or_pos r.n with h0 | h0
    · have hk00 : k = 0 := by omega
      subst hk00
      cases hp : r.p <;> simp [Sl.v, hp, Builtin.firstCells, loadCells, loadCellsFrom]
    · obtain ⟨b2, o2, hrp, hrr⟩ := hsrc.2.resolve_left (by omega)
      simp only [Sl.v, hrp]
      refine run_firstCells_some (P := P) w s k ⟨b2, o2, none⟩ r.n r.c _ hylen fun j u hu => ?_
      rw [Addr.add_lit]
      rw [List.getElem?_take] at hu
      split at hu
      · exact (hrr j u hu).cell hw'
      · cases hu
  have hst := run_storeCells_at P b o T (ys.take (k * s)) 0 c w hb (by rw [hylen]; omega) h1
  simp only [Nat.add_zero] at hst
  rw [← putAt_eq _ _ _ (by rw [hylen]; simpa using hfit)] at hst
  unfold Oper.wp
  have hr : (execOp a.eval (⟨some dd, .call ⟨.builtin .copy, #[x, y], #[t, t']⟩, ty, pos, af, none⟩ : Oper)).run P w = .ok (.value (.int .i64 (k : Int))) (w.setRow b (putAt c.toList o (ys.take (k * s))).toArray) := by
    simp only [execOp, resolve, invoke, builtin, List.map_toArray, List.map_cons, List.map_nil, ha.eval hx, ha.eval hy, Sem.run_bind, Sem.run_pure, Result.andThen_ok]
    simp only [Sl.v] at hf
    simp [Builtin.copy_, run_underlying hu.out, Builtin.lenOf, hmin, sizeOf, typeInfo, h2, h3, hf, hst, goInt]
  rw [hr]
  exact hK _ _ (hk _ _ (ha.put (Nat.le_of_ble_eq_true hn) _) (Step.setRow hw' _))
theorem RunL.copy {b o m cap k s : Nat} {c : Array Value} {e T : TypeId} {r : Sl} {ys : List Value} (hu : Under P t (.slice e)) (hs : SizeIs P e s) (hn : Nat.blt dd n = true) (hx : oev E x = some (.slice (some ⟨b, o, none⟩) m cap)) (hy : oev E y = some r.v)
    (ht : Take [(b, .cells c T)] L R0) (hsrc : SrcAt h ([(b, .cells c T)] ++ R0) s r ys) (h1 : ∀ u ∈ ys, u.oneCell' = true) (hk0 : k = min r.n m) (hfit : o + k * s ≤ c.size)
    (hk : RunL P n B ops l ((dd, .int .i64 (k : Int)) :: E) h ((b, .cells (putAt c.toList o (ys.take (k * s))).toArray T) :: R0) Q) :
    RunL P n B ops (⟨some dd, .call ⟨.builtin .copy, #[x, y], #[t, t']⟩, ty, pos, af, none⟩ :: l) E h L Q := RunL.copyT hu hs hn hx hy ht hsrc (fun u hu => h1 u (List.mem_of_mem_take hu)) hk0 hfit hk
/-- A call that reads owned blocks and leaves them as they were. -/
theorem OpP.callL {f : FuncId} {xs : List Operand} {vs : List Value} {tys : Array TypeId} {Lc : Own} (hc : callable P f = true) (hv : Vals E A xs vs) (ht : Take Lc L R0) (hs : A = true → Ctr P f vs.toArray h Lc (fun r _ N => r = v ∧ N = Lc)) :
    OpP P B E A h L ⟨d, .call ⟨.value (.func f), xs.toArray, tys⟩, ty, pos, af, g⟩ v := by
  intro hA n a w ha hw K Q hK
  have hw0 : Step B h (Lc ++ R0) w := hw.perm ht
  refine Oper.wp_call (R := fun r w' => r = v ∧ Step B h L w') (run_call hc (hv.map hA ha)) ((hs hA w (hw0.pre_of (List.sublist_append_left _ _))).mono ?_) (fun r w' ⟨e, st⟩ => by subst e; exact hK w' st)
  rintro e w' ⟨r, h', N, he, ⟨hr, hN⟩, st⟩
  subst hN
  refine ⟨r, he, hr, ?_⟩
  have s1 : Step B h' (N ++ R0) w' := Step.call hw0 st
  have s2 : Step B h' L w' := s1.perm (List.Perm.symm ht)
  exact { s2 with gle := hw.gle, gnew := hw.gnew, sub := fun b o hb => s2.sub b o (st.gle b o hb), apart := hw.apart, nd := hw.nd, lnew := hw.lnew }
theorem OpP.eql_slice {p : Option Addr} {m cap : Nat} {e : TypeId} (hx : Val E A x (.slice p m cap)) (hy : Val E A y (.slice none 0 0)) (hu : Under P t (.slice e)) : OpP P B E A h L ⟨d, .binOp .eql t x y t', ty, pos, af, g⟩ (.bool p.isNone) :=
  .of_run fun hA _ _ w ha _ => by
    have hr := Lib.run_eql_slice_nil (P := P) w t e p m cap 0 0 hu.out
    simp only [execOp, hx hA _ _ ha, hy hA _ _ ha]
    simp [eqGuard, hr]
theorem OpP.makeFuncB {fn : Fn} {fs cs : List Operand} {us vs : List Value} (hf : Vals E A fs us) (hv : Vals E A cs vs) : OpP P B E A h L ⟨d, .makeFunc fn fs.toArray cs.toArray, ty, pos, af, g⟩ (.func fn us.toArray vs.toArray) :=
  .of_run fun hA _ _ w ha _ => by
    simp [execOp, Instr.makeFunc, hf.map hA ha, hv.map hA ha]
theorem RunL.callB {f : FuncId} {xs : List Operand} {vs : List Value} {first : Array Value} {tys : Array TypeId} {Lc : Own} {R : Value → GH → Own → Prop} (hn : Nat.blt dd n = true) (hc : callable P f = true) (hx : oev E x = some (.func (.func f) first #[])) (hv : evs E xs = some vs)
    (ht : Take Lc L R0) (hs : Ctr P f (first ++ vs.toArray) h Lc R) (hk : ∀ v h' N, GH.le h h' → R v h' N → RunL P n B ops l ((dd, v) :: E) h' (N ++ R0) Q) :
    RunL P n B ops (⟨some dd, .call ⟨.value x, xs.toArray, tys⟩, ty, pos, af, none⟩ :: l) E h L Q := by
  intro a w ha hw
  refine wpList_plain rfl fun K hK => ?_
  have hw' : Step B h (Lc ++ R0) w := hw.perm ht
  have hev := evs_spec hv ha
  refine Oper.wp_call (f := f) (args := first ++ vs.toArray) (R := fun v w' => ∃ h' N, GH.le h h' ∧ R v h' N ∧ Step B h' (N ++ R0) w') ?_ ((hs w (hw'.pre_of (List.sublist_append_left _ _))).mono ?_) ?_
  · simp [execOp, resolve, ha.eval hx, Deferred.ofValue, invoke, hev, run_callFunc hc]
  · rintro e w' ⟨r, h', N, he, hr, st⟩
    exact ⟨r, he, h', N, st.gle, hr, Step.call hw' st⟩
  · rintro v w' ⟨h', N, hle, hr, st⟩
    exact hK _ _ (hk v h' N hle hr _ _ (ha.put (Nat.le_of_ble_eq_true hn) v) st)
theorem OpP.slice3 {p : Option Addr} {m cap s : Nat} {i j k : Int} {k1 k2 k3 : IntKind} {e : TypeId} {x2 : Operand} (hx : Val E A x (.slice p m cap)) (hy : Val E A y (.int k1 i)) (hz : Val E A z (.int k2 j)) (hm : Val E A x2 (.int k3 k)) (h0 : A = true → 0 ≤ i) (h1 : A = true → i ≤ j) (h2 : A = true → j ≤ k) (h3 : A = true → k ≤ (cap : Int)) (hu : Under P t (.slice e)) (hs : SizeIs P e s) :
    OpP P B E A h L ⟨d, .slice t x (some y) (some z) (some x2), ty, pos, af, g⟩ (.slice (slAt p k.toNat i.toNat s) (j.toNat - i.toNat) (k.toNat - i.toNat)) :=
  .of_run fun hA _ _ w ha _ => by
    obtain ⟨inf, g1, g2⟩ := hs.out
    obtain ⟨i, rfl⟩ := Int.eq_ofNat_of_zero_le (h0 hA)
    obtain ⟨j, rfl⟩ := Int.eq_ofNat_of_zero_le (Int.le_trans (h0 hA) (h1 hA))
    obtain ⟨k, rfl⟩ := Int.eq_ofNat_of_zero_le (Int.le_trans (Int.le_trans (h0 hA) (h1 hA)) (h2 hA))
    have e1 : i ≤ j := by have := h1 hA; omega
    have e2 : j ≤ k := by have := h2 hA; omega
    have e3 : k ≤ cap := by have := h3 hA; omega
    simp only [execOp, hx hA _ _ ha, Option.map_some, hy hA _ _ ha, hz hA _ _ ha, hm hA _ _ ha, Instr.sliceAt, Instr.slice, Instr.sliceBounds, Sem.run_bind, run_underlying hu.out, Result.andThen_ok, Sem.run_pure, run_sliceBound e1, run_sliceBound e2, run_sliceBound e3, sizeOf, typeInfo, run_program, g1, g2, slAt, Int.toNat_natCast]
theorem IsSl.cut3 {size : Nat} {s : Sl} {xs : List Value} (hs : IsSl h size s xs) (i j k : Nat) (hij : i ≤ j) (hj : j ≤ s.n) (hjk : j ≤ k) (hk : k ≤ s.c) : IsSl h size ⟨slAt s.p k i size, j - i, k - i⟩ ((xs.drop (i * size)).take ((j - i) * size)) := by
  have hlen := hs.len
  have hle := hs.le
  refine ⟨?_, by simp; omega, by have := hs.max; simp; omega, ?_, ?_, ?_⟩
  · rw [List.length_take, List.length_drop, hlen, ← Nat.sub_mul]
    exact Nat.min_eq_left (Nat.mul_le_mul_right _ (by omega))
  · rcases hs.cells with h0 | ⟨b, o, hp, hc⟩
    · left; simp; omega
    · by_cases hci : k = i
      · left; simp; omega
      · right
        have hadd : (⟨b, o, none⟩ : Addr).add (i * size) = ⟨b, o + i * size, none⟩ := by unfold Addr.add; split <;> simp_all
        refine ⟨b, o + i * size, by simp [slAt, hci, hp, hadd], fun k v hv => ?_⟩
        rw [List.getElem?_take] at hv
        split at hv
        · rw [List.getElem?_drop] at hv
          have := hc (i * size + k) v hv
          rwa [← Nat.add_assoc] at this
        · cases hv
  · intro hn
    simp only [slAt] at hn
    have : s.p = none := by
      split at hn
      · exact hn
      · cases hp : s.p <;> simp_all
    have := hs.nil this
    simp; omega
  · intro a ha hc
    simp only [slAt] at ha
    simp only at hc
    split at ha
    · omega
    · obtain ⟨a0, h0, rfl⟩ := Option.map_eq_some_iff.1 ha
      unfold Addr.add
      split
      · exact hs.spot a0 h0 (by omega)
      · rfl
end
end Go.Proofs.YtcckofgleghbgaaDoor.Sx
