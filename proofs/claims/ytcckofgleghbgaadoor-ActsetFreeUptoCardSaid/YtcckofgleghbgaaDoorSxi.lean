/- More operations: cap, append of zeros, overlaps, clear; what an owned block holds at any place. -/
import Derived.Test.YtcckofgleghbgaaDoorSxh
import Derived.Lib.Overlaps
import Derived.Lib.AppendZerosOnto
namespace Go.Proofs.YtcckofgleghbgaaDoor.Sx
open Go
theorem Reads.own' {h : GH} {L R : Own} {b o : Nat} {c : Array Value} {T : TypeId} {fz : Nat × Nat} {v : Value} (ht : Take [(b, Obj.cells c T fz)] L R) (hc : c[o]? = some v) : Reads h L b o v := .inr ⟨c, T, fz, ht.mem, hc⟩
/-- Cells of an owned block, told of its list. -/
theorem ReadsAll.at {h : GH} {L R : Own} {b o : Nat} {c : Array Value} {T : TypeId} {fz : Nat × Nat} {vs : List Value} (ht : Take [(b, Obj.cells c T fz)] L R) (hc : ∀ i v, vs[i]? = some v → c[o + i]? = some v) : ReadsAll h L b o vs := fun i v hi => .inr ⟨c, T, fz, ht.mem, hc i v hi⟩
section
variable {P : Program} {B : Base} {E : Env} {A : Bool} {h : GH} {L R0 : Own} {Q : Post} {n : Nat} {ops : Array Oper} {l : List Oper}
variable {d : Option Nat} {dd : Nat} {t t' ty : TypeId} {x y : Operand} {pos : String} {af : Array Edge} {g : Option (Nat × Bool)}
theorem SrcAt.at {size : Nat} {s : Sl} {xs : List Value} {b o : Nat} {c : Array Value} {T : TypeId} {fz : Nat × Nat} {R : Own} (ht : Take [(b, Obj.cells c T fz)] L R) (hp : s.p = some ⟨b, o, none⟩) (hl : xs.length = s.n * size) (hc : ∀ i v, xs[i]? = some v → c[o + i]? = some v) : SrcAt h L size s xs :=
  ⟨hl, .inr ⟨b, o, hp, ReadsAll.at ht hc⟩⟩
theorem OpP.capSl {b : Option Addr} {m cap : Nat} {e : TypeId} (hx : Val E A x (.slice b m cap)) (hu : Under P t (.slice e)) :
    OpP P B E A h L ⟨d, .call ⟨.builtin .cap, #[x], #[t]⟩, ty, pos, af, g⟩ (.int .i64 (cap : Int)) :=
  .of_run fun hA _ _ w ha _ => by
    simp [execOp, hx hA _ _ ha, resolve, invoke, builtin, Builtin.cap_, run_underlying hu.out, goInt]
/-- An operation behind a guard that has been decided. -/
theorem OpG.yes {o : Oper} {v : Value} {j tt : Nat} {want : Bool} (hg : o.guard = some (j, want)) (hj : (ops[j]?).bind (·.dst) = some tt) (ht : eget E tt = some (.bool want)) (ho : OpP P B E true h L o v) : OpG P B ops E h L o v :=
  fun n a w ha hw K Q hK => by
    simp only [Region.wanted, hg, yielded_of hj ht ha, beq_self_eq_true, if_true]
    exact ho rfl n a w ha hw K Q hK
theorem OpXG.yes {op : Op} {j tt : Nat} {want : Bool} {R : Value → GH → Own → Prop} (hj : (ops[j]?).bind (·.dst) = some tt) (ht : eget E tt = some (.bool want)) (he : OpXG P B ops E h L ⟨d, op, ty, pos, af, none⟩ R) : OpXG P B ops E h L ⟨d, op, ty, pos, af, some (j, want)⟩ R := by
  intro n a w ha hw K Q hK
  have h1 := he n a w ha hw K Q hK
  simp only [Region.wanted, if_true] at h1
  simp only [Region.wanted, yielded_of hj ht ha, beq_self_eq_true, if_true]
  exact h1
theorem OpXG.allocF {zv : Value} {cs : Array Value} (hz : ZeroIs P t zv) (hc : zv.cells = cs) : OpXG P B ops E h L ⟨d, .alloc t, ty, pos, af, none⟩ (fun v h' L' => h' = h ∧ ∃ b, v = .pointer (some ⟨b, 0, none⟩) ∧ L' = (b, .cells cs t) :: L) :=
  OpXG.newBlock (mk := fun b => .pointer (some ⟨b, 0, none⟩)) rfl fun _ a w _ _ => by
    obtain ⟨i, h1, h2⟩ := hz.out
    simp [execOp, Instr.alloc, zeroValue, typeInfo, h1, h2, newVar, newRow, hc]
/-- append(s, make(..)...) that has no room: a new block. -/
theorem RunL.appendZ {e tn : TypeId} {size bytes n0 cap k b : Nat} {zv : Value} {c : Array Value} {T : TypeId} (hu : Under P t (.slice e)) (hun : Under P tn (.int .i64)) (hs : SizeIs P e size) (hb : BytesIs P e bytes) (hz : ZeroIs P e zv) (hn : Nat.blt dd n = true)
    (hx : oev E x = some (.slice (some ⟨b, 0, none⟩) n0 cap)) (hy : oev E y = some (.int .i64 (k : Int))) (ht : Take [(b, .cells c T)] L R0) (hc : n0 * size ≤ c.size) (h0 : 0 < k) (hg : cap < n0 + k) (h63 : n0 + k ≤ maxLen) (hby : (n0 + k) * bytes ≤ 140737488355328)
    (hzs : Nat.beq zv.cells.size size = true) (hpos : Nat.blt 0 size = true)
    (hk : ∀ b' cap' zs, n0 + k ≤ cap' → cap' ≤ maxLen → zs.length = (cap' - n0) * size → RunL P n B ops l ((dd, .slice (some ⟨b', 0, none⟩) (n0 + k) cap') :: E) h ((b', .cells (c.toList.take (n0 * size) ++ zs).toArray e) :: L) Q) :
    RunL P n B ops (⟨some dd, .call ⟨.builtin .append, #[x, y], #[t, tn]⟩, ty, pos, af, none⟩ :: l) E h L Q := by
  intro a w ha hw
  refine wpList_plain rfl fun K hK => ?_
  obtain ⟨i3, hi, hi2⟩ := hs.out
  obtain ⟨i4, hi4, hib⟩ := hb.out
  obtain ⟨i5, hi5, hiz⟩ := hz.out
  have e4 : i4 = i3 := by rw [hi] at hi4; exact (Option.some.inj hi4).symm
  have e5 : i5 = i3 := by rw [hi] at hi5; exact (Option.some.inj hi5).symm
  subst e4 e5 hi2 hib
  have hzs' : zv.cells.size = i5.size := Nat.eq_of_beq_eq_true hzs
  have hpos' : 0 < i5.size := Nat.le_of_ble_eq_true hpos
  have hw' : Step B h ([(b, .cells c T)] ++ R0) w := hw.perm ht
  have hbl := hw'.own _ (List.mem_append_left _ (List.mem_cons_self ..))
  simp only at hbl
  have hlen : (c.toList.take (n0 * i5.size)).length = n0 * i5.size := by simp; omega
  have hold : (Builtin.firstCells i5.size n0 (.slice (some ⟨b, 0, none⟩) n0 cap)).run P w.drew = .ok (c.toList.take (n0 * i5.size)).toArray w.drew := by
    refine run_firstCells_some (P := P) w.drew i5.size n0 ⟨b, 0, none⟩ n0 cap _ hlen fun j u hu => ?_
    rw [Addr.add_lit]
    rw [List.getElem?_take] at hu
    split at hu
    · show w.cell? _ = _
      simp [World.cell?, hbl]; simpa using hu
    · cases hu
  have hk48 : k * i5.bytes ≤ 281474976710656 := by
    have : k * i5.bytes ≤ (n0 + k) * i5.bytes := Nat.mul_le_mul_right _ (by omega)
    omega
  unfold maxLen at h63
  have hr := Lib.run_append_grow_zeros (P := P) w t tn ty e i5 zv .i64 .i64 hu.out hun.out hi hiz (some ⟨b, 0, none⟩) n0 cap (c.toList.take (n0 * i5.size)) hold k h0 hpos' hg (by omega) hk48 (growslice_fits (by omega) hby)
  unfold Oper.wp
  simp only [execOp, resolve, invoke, builtin, List.map_toArray, List.map_cons, List.map_nil, ha.eval hx, ha.eval hy, Sem.run_bind, Sem.run_pure, Result.andThen_ok, hr, Oper.upon]
  have hge := grownCap_ge w (n0 + k) cap e
  have hle := grownCap_le_maxLen w (n0 + k) cap e (by unfold maxLen; omega)
  refine hK _ _ (hk _ _ ((Builtin.zeroCells zv.cells k).toList ++ (Builtin.zeroCells zv.cells (grownCap w (n0 + k) cap e - (n0 + k))).toList) hge hle ?_ _ _ (ha.put (Nat.le_of_ble_eq_true hn) _) ?_)
  · simp only [List.length_append, Array.length_toList, size_zeroCells, hzs', ← Nat.add_mul]
    congr 1; omega
  · have h1 := (Step.drew hw).alloc (.cells ((c.toList.take (n0 * i5.size)).toArray ++ Builtin.zeroCells zv.cells k ++ Builtin.zeroCells zv.cells (grownCap w (n0 + k) cap e - (n0 + k))) e)
    have e1 : ((c.toList.take (n0 * i5.size)).toArray ++ Builtin.zeroCells zv.cells k ++ Builtin.zeroCells zv.cells (grownCap w (n0 + k) cap e - (n0 + k))) = (c.toList.take (n0 * i5.size) ++ ((Builtin.zeroCells zv.cells k).toList ++ (Builtin.zeroCells zv.cells (grownCap w (n0 + k) cap e - (n0 + k))).toList)).toArray := by
      apply Array.ext'; simp
    rw [e1] at h1 ⊢
    exact h1
/-- Two slices in two blocks of our own do not overlap. -/
theorem OpP.overlaps {f : FuncId} {fn : Func} {tS tR e : TypeId} {xs : List Operand} {size b1 o1 n1 c1 b2 o2 n2 c2 : Nat} {ca cb : Array Value} {Ta Tb : TypeId} {tys : Array TypeId} (hf : P.funcs[f]? = some fn) (hname : (fn.name == "runtime.NumGoroutine") = false) (hb : fn.body.isNone = true) (hn : Extern.findNext fn = none) (he : Extern.find fn = some (Extern.SlicesOverlaps.overlaps #[tS, tS] #[tR]))
    (hu : Under P tS (.slice e)) (hs : SizeIs P e size) (hv : Vals E A xs [.slice (some ⟨b1, o1, none⟩) n1 c1, .slice (some ⟨b2, o2, none⟩) n2 c2])
    (ht : Take [(b1, .cells ca Ta), (b2, .cells cb Tb)] L R0) (hpos : 0 < cb.size) :
    OpP P B E A h L ⟨d, .call ⟨.value (.func f), xs.toArray, tys⟩, ty, pos, af, g⟩ (.bool false) :=
  .of_run fun hA _ a w ha hw => by
    obtain ⟨i3, hi, hi2⟩ := hs.out
    have hw' : Step B h ([(b1, .cells ca Ta), (b2, .cells cb Tb)] ++ R0) w := hw.perm ht
    have ha1 := hw'.own (b1, .cells ca Ta) (by simp)
    have hb1 := hw'.own (b2, .cells cb Tb) (by simp)
    have hne : b1 ≠ b2 := by
      have := hw'.nd
      simp [ids] at this
      exact fun e => this.1.1 e
    simp only at ha1 hb1
    have hr := Lib.run_overlaps_apart (P := P) w tS tR e hu.out size (fun w => by simp [sizeOf, typeInfo, hi, hi2]) ⟨b1, o1, none⟩ ⟨b2, o2, none⟩ n1 c1 n2 c2 hne Ta Tb ca.size cb.size (by simp [World.shape?, ha1]) (by simp [World.shape?, hb1]) (by omega) (by simp [World.frozen?, ha1]) (by simp [World.frozen?, ha1])
    have hx := hv.map hA ha
    have hev : a.eval (.func f) = .func (.func f) #[] #[] := rfl
    simp [execOp, resolve, hev, Deferred.ofValue, invoke, hx, run_callFunc_extern hf hname hb hn he, hr]
/-- clear of a slice of our own. -/
theorem RunL.clear {e : TypeId} {size b o m cap : Nat} {zv : Value} {c : Array Value} {T : TypeId} (hu : Under P t (.slice e)) (hs : SizeIs P e size) (hz : ZeroIs P e zv) (hx : oev E x = some (.slice (some ⟨b, o, none⟩) m cap)) (ht : Take [(b, .cells c T)] L R0) (hfit : o + m * size ≤ c.size)
    (hzs : Nat.beq zv.cells.size size = true) (h1 : zv.cells.toList.all Value.oneCell' = true)
    (hk : ∀ zs : List Value, zs.length = m * size → RunL P n B ops l E h ((b, .cells (c.toList.take o ++ zs ++ c.toList.drop (o + m * size)).toArray T) :: R0) Q) :
    RunL P n B ops (⟨none, .call ⟨.builtin .clear, #[x], #[t]⟩, ty, pos, af, none⟩ :: l) E h L Q := by
  intro a w ha hw
  refine wpList_plain rfl fun K hK => ?_
  obtain ⟨i3, hi, hi2⟩ := hs.out
  obtain ⟨i5, hi5, hiz⟩ := hz.out
  have e5 : i5 = i3 := by rw [hi] at hi5; exact (Option.some.inj hi5).symm
  subst e5 hi2
  have hzs' : zv.cells.size = i5.size := Nat.eq_of_beq_eq_true hzs
  have hw' : Step B h ([(b, .cells c T)] ++ R0) w := hw.perm ht
  have hbl := hw'.own _ (List.mem_append_left _ (List.mem_cons_self ..))
  simp only at hbl
  have hlen : ∀ k, (Builtin.zeroCells zv.cells k).toList.length = k * i5.size := fun k => by simp [size_zeroCells, hzs']
  cases m with
  | zero =>
    have := hk [] (by simp)
    simp only [Nat.zero_mul, Nat.add_zero, List.append_nil, List.take_append_drop] at this
    unfold Oper.wp
    simp only [execOp, resolve, invoke, builtin, List.map_toArray, List.map_cons, List.map_nil, ha.eval hx, Sem.run_bind, Sem.run_pure, Result.andThen_ok]
    simp [Builtin.clear_, run_underlying hu.out, Oper.upon]
    exact hK _ _ (this _ _ ha hw')
  | succ m =>
    have hall : ∀ u ∈ (Builtin.zeroCells zv.cells (m + 1)).toList, u.oneCell' = true := fun u hu2 => by
      have hp : 0 < zv.cells.size := by
        rcases Nat.eq_zero_or_pos zv.cells.size with h0 | h0
        · simp [Builtin.zeroCells, h0] at hu2
        · exact h0
      simp only [Builtin.zeroCells, Array.toList_map, List.mem_map] at hu2
      obtain ⟨j, hj, rfl⟩ := hu2
      refine List.all_eq_true.1 h1 _ ?_
      rw [getElem!_pos zv.cells _ (Nat.mod_lt _ hp)]
      simp
    have hst := run_storeCells_at P b o T (Builtin.zeroCells zv.cells (m + 1)).toList 0 c w hbl (by rw [hlen]; omega) hall
    simp only [Nat.add_zero] at hst
    have hfin := hk _ (hlen (m + 1))
    unfold Oper.wp
    simp only [execOp, resolve, invoke, builtin, List.map_toArray, List.map_cons, List.map_nil, ha.eval hx, Sem.run_bind, Sem.run_pure, Result.andThen_ok]
    simp [Builtin.clear_, run_underlying hu.out, Oper.upon, zeroValue, typeInfo, hi, hiz, hst]
    have hsz : (Builtin.zeroCells zv.cells (m + 1)).size = (m + 1) * i5.size := by simp [size_zeroCells, hzs']
    rw [hsz, ← List.append_assoc]
    exact hK _ _ (hfin _ _ ha (Step.setRow hw' _))
end
end Go.Proofs.YtcckofgleghbgaaDoor.Sx
