/- Contracts: slices.DeleteFunc at lists of actions. -/
import Derived.Test.YtcckofgleghbgaaDoorIns
namespace Go.Proofs.YtcckofgleghbgaaDoor
open Go Sx
theorem findGo_none {α : Type} {p : α → Bool} : ∀ {k : Nat} {l : List α}, findGo p k l = -1 → l.filter (fun x => !p x) = l
  | _, [], _ => rfl
  | k, a :: l, hf => by
    unfold findGo at hf
    split at hf
    · omega
    · rename_i hp
      rw [List.filter_cons_of_pos (by simpa using hp), findGo_none hf]
theorem findGo_some {α : Type} {p : α → Bool} : ∀ {k : Nat} {l : List α}, findGo p k l ≠ -1 → ∃ j, j < l.length ∧ findGo p k l = ((k + j : Nat) : Int) ∧ (l.take j).filter (fun x => !p x) = l.take j ∧ ∃ (hj : j < l.length), p l[j] = true
  | _, [], hf => absurd rfl hf
  | k, a :: l, hf => by
    unfold findGo at hf ⊢
    split at hf
    · rename_i hp
      rw [if_pos hp]
      exact ⟨0, by simp, by simp, by simp, by simp, hp⟩
    · rename_i hp
      rw [if_neg hp]
      obtain ⟨j, h1, h2, h3, h4, h5⟩ := findGo_some hf
      refine ⟨j + 1, by simpa using h1, by rw [h2]; congr 1; omega, ?_, by simpa using h4, by simpa using h5⟩
      rw [List.take_succ_cons, List.filter_cons_of_pos (by simpa using hp), h3]
set_option maxHeartbeats 2000000 in
set_option maxRecDepth 100000 in
theorem acts_DeleteFunc {h : GH} {l : List ActM} {b n c : Nat} {N : Own} {f : FuncId} {p : ActM → Bool} (hn0 : n = l.length) (ho : OwnActs h ⟨some ⟨b, 0, none⟩, n, c⟩ l N) (hl : l.length ≤ 4000000) (hne : l ≠ []) (hf : ActPred f #[] h [] l p) :
    Ctr Tryd.prog 53 [.slice (some ⟨b, 0, none⟩) n c, .func (.func f) #[] #[]].toArray h N fun r h' N' => ∃ s' : Sl, r = s'.v ∧ OwnActs h' s' (l.filter fun x => !p x) N' := by
  refine Ctr.of_run Tryd.func53 rfl rfl rfl fun w0 => ?_
  refine Run.seq ?_
  refine Run.region' ?_
  refine RunL.pure rfl rfl (OpG.plain rfl (OpP.assign (Val.of rfl))) ?_
  refine RunL.nil ?_
  refine RunQ.then_normal ?_
  refine Run.seq ?_
  refine Run.region' ?_
  refine RunL.pure rfl rfl (OpG.plain rfl (OpP.move (Val.of rfl))) ?_
  refine RunL.pure rfl rfl (OpG.plain rfl (OpP.move (Val.of rfl))) ?_
  have hct := acts_IndexFunc (N := N) (Lc := []) (h := h) (s := ⟨some ⟨b, 0, none⟩, n, c⟩) (p := p) (OwnActs.seen ho hl (by simp)) hf
  rw [List.append_nil] at hct
  refine RunL.call rfl (by kernel_rfl) rfl Take.whole hct (fun v h2 N2 hle2 hx2 => ?_)
  obtain ⟨hv, hN⟩ := hx2
  subst hv hN
  rw [List.append_nil]
  replace ho := ho.mono hle2
  refine RunL.pure rfl rfl (OpG.plain rfl (OpP.assign (Val.of rfl))) ?_
  refine RunL.nil ?_
  refine RunQ.then_normal ?_
  refine Run.seq ?_
  refine Run.seq ?_
  refine Run.region' ?_
  refine RunL.pure rfl rfl (OpG.plain rfl (OpP.move (Val.of rfl))) ?_
  refine RunL.pure rfl rfl (OpG.plain rfl (OpP.bin (Val.of rfl) (Val.of rfl) rfl)) ?_
  refine RunL.nil ?_
  refine RunQ.then_normal ?_
  refine Run.cond rfl (fun hc0 => ?_) (fun hc0 => ?_)
  · have hm : findGo p 0 l = -1 := by simpa using hc0
    refine Run.seq ?_
    refine Run.region' ?_
    refine RunL.pure rfl rfl (OpG.plain rfl (OpP.move (Val.of rfl))) ?_
    refine RunL.pure rfl rfl (OpG.plain rfl (OpP.assign (Val.of rfl))) ?_
    refine RunL.nil ?_
    refine RunQ.then_normal ?_
    refine Run.ret ?_
    refine RunQ.then_ret ?_
    refine RunQ.ret1 rfl rfl ?_
    exact ⟨⟨some ⟨b, 0, none⟩, n, c⟩, rfl, by rw [findGo_none hm]; exact ho⟩
  · have hm : findGo p 0 l ≠ -1 := by simpa using hc0
    obtain ⟨i0, hi0, hfi, hfl, _, hpi⟩ := findGo_some hm
    rw [Nat.zero_add] at hfi
    rw [hfi]
    obtain ⟨b1, cur1, c1, css1, hs1, hN1, hlc1, hmx1, hcs1, htk1, hrp1, hat1⟩ := OwnRep.at ho (by decide) hne
    simp only [Sl.mk.injEq, Option.some.injEq, Addr.mk.injEq, and_true] at hs1
    obtain ⟨hb1, _, hc1⟩ := hs1
    subst hb1 hc1
    have hfil0 : (l.take (i0 + 1)).filter (fun x => !p x) = l.take i0 := by
      rw [List.take_succ_eq_append_getElem hi0, List.filter_append, hfl, List.filter_cons_of_neg (by simpa using hpi), List.filter_nil, List.append_nil]
    refine Run.skip ?_
    refine RunQ.then_normal ?_
    refine Run.seq ?_
    refine Run.seq ?_
    refine Run.region' ?_
    refine RunL.pure rfl rfl (OpG.plain rfl (OpP.move (Val.of rfl))) ?_
    refine RunL.pure rfl rfl (OpG.plain rfl ((OpP.add64 (Val.of rfl) (Val.of rfl) (by omega) (by omega)).to (u := i64v ((i0 + 1 : Nat) : Int)) (by congr 1))) ?_
    refine RunL.pure rfl rfl (OpG.plain rfl (OpP.assign (Val.of rfl))) ?_
    refine RunL.nil ?_
    refine RunQ.then_normal ?_
    refine Run.block ?_
    refine Run.loopT (fun m E h' L' => ∃ (ii j : Nat) (d : List ActM) (cur : Array Value) (css : List (List Value)), ii < j ∧ j ≤ l.length ∧ m = l.length - j ∧ GH.le h2 h' ∧ d.length = l.length ∧ d.take ii = (l.take j).filter (fun x => !p x) ∧ d.drop j = l.drop j ∧ cur.size = c * 10 ∧ cur.toList.take (l.length * 10) = css.flatten ∧ Reps 10 ActR h' d css ∧ L' = [(b, .cells cur 41)] ∧ E = [(0, .slice (some ⟨b, 0, none⟩) n c), (1, .func (.func f) #[] #[]), (5, i64v (ii : Int)), (6, i64v (j : Int))]) (l.length - (i0 + 1)) ⟨i0, i0 + 1, l, cur1, css1, by omega, hi0, rfl, GH.le.refl _, rfl, hfil0.symm, rfl, hcs1, htk1, hrp1, by rw [hN1], rfl⟩ ⟨rfl, rfl, rfl, rfl, trivial⟩ Take.whole ?_
    rintro m E1 h1 L1 ⟨ii, j, d, cur, css, hij, hjl, rfl, hle1, hdl, hdt, hdd, hcs, htk, hrp, rfl, rfl⟩
    have hcur : cur.toList.length = c * 10 := by simpa using hcs
    have hlc10 : l.length * 10 ≤ c * 10 := Nat.mul_le_mul_right _ hlc1
    refine Run.seq ?_
    refine Run.seq ?_
    refine Run.region' ?_
    refine RunL.pure rfl rfl (OpG.plain rfl (OpP.move (Val.of rfl))) ?_
    refine RunL.pure rfl rfl (OpG.plain rfl (OpP.move (Val.of rfl))) ?_
    refine RunL.pure rfl rfl (OpG.plain rfl (OpP.lenSl (Val.of rfl) inferInstance)) ?_
    refine RunL.pure rfl rfl (OpG.plain rfl (OpP.bin (Val.of rfl) (Val.of rfl) rfl)) ?_
    refine RunL.nil ?_
    refine RunQ.then_normal ?_
    refine Run.cond rfl (fun hc1 => ?_) (fun hc1 => ?_)
    · have hlt : j < l.length := by simp only [decide_eq_true_eq] at hc1; omega
      have hdj : d[j]? = some l[j] := by
        have := congrArg (fun x => x[0]?) hdd
        simpa [List.getElem?_drop, List.getElem?_eq_getElem hlt] using this
      have hdj' : d[j]'(by omega) = l[j] := by rw [List.getElem?_eq_getElem (by omega)] at hdj; exact Option.some.inj hdj
      obtain ⟨cs, hR, hcl, _, hget⟩ := hrp.getCells (i := j) (by omega)
      rw [hdj'] at hR
      obtain ⟨sv, sm, sd, rfl, hox⟩ := hR
      have hread : ∀ R, ReadsAll h1 ((b, .cells cur 41) :: R) b (0 + j * 10) (actC l[j] sv sm sd) := fun R => ReadsAll.at Take.head (by
        intro q v hv
        have := hget q v hv
        rw [← htk, List.getElem?_take] at this
        split at this
        · rw [Nat.zero_add]; simpa using this
        · cases this)
      have hsnoc : (l.take (j + 1)).filter (fun x => !p x) = (l.take j).filter (fun x => !p x) ++ if p l[j] then [] else [l[j]] := by
        rw [List.take_succ_eq_append_getElem hlt, List.filter_append]
        congr 1
        cases hp : p l[j] <;> simp [hp]
      refine Run.skip ?_
      refine RunQ.then_normal ?_
      refine Run.seq ?_
      refine Run.block ?_
      refine Run.seq ?_
      refine Run.region' ?_
      refine RunL.pure rfl rfl (OpG.plain rfl (OpP.move (Val.of rfl))) ?_
      refine RunL.pure rfl rfl (OpG.plain rfl (OpP.move (Val.of rfl))) ?_
      refine RunL.pure rfl rfl (OpG.plain rfl (by first | exact OpP.indexSl (Val.of rfl) (Val.of rfl) (fun _ => by omega) inferInstance inferInstance | exact OpP.indexI (Val.of rfl) (Val.of rfl) (fun _ => by omega) (fun _ => by omega) inferInstance inferInstance)) ?_
      refine RunL.pure rfl rfl (OpG.plain rfl (OpP.loadN (Val.of rfl) (fun hA => hread _) rfl inferInstance)) ?_
      refine RunL.alloc inferInstance rfl rfl fun b1 => ?_
      apply RunL.store inferInstance rfl rfl
      · first | exact Take.head | exact (Take.cons Take.head) | exact (Take.cons (Take.cons Take.head)) | exact (Take.cons (Take.cons (Take.cons Take.head))) | exact (Take.cons (Take.cons (Take.cons (Take.cons Take.head)))) | exact (Take.app Take.head) | exact (Take.app (Take.cons Take.head)) | exact (Take.cons (Take.app Take.head)) | exact (Take.app (Take.cons (Take.cons Take.head))) | exact (Take.cons (Take.app (Take.cons Take.head))) | exact (Take.cons (Take.cons (Take.app Take.head))) | exact (Take.app (Take.cons (Take.cons (Take.cons Take.head)))) | exact (Take.cons (Take.app (Take.cons (Take.cons Take.head)))) | exact (Take.cons (Take.cons (Take.app (Take.cons Take.head)))) | exact (Take.cons (Take.cons (Take.cons (Take.app Take.head))))
      · rfl
      · rfl
      · rfl
      · rfl
      refine RunL.nil ?_
      refine RunQ.then_normal ?_
      refine Run.seq ?_
      refine Run.region' ?_
      refine RunL.pure rfl rfl (OpG.plain rfl (OpP.move (Val.of rfl))) ?_
      refine RunL.pure rfl rfl (OpG.plain rfl (by first | exact OpP.loadW (Val.of rfl) Take.head rfl inferInstance | exact OpP.loadW (Val.of rfl) (Take.cons Take.head) rfl inferInstance | exact OpP.loadW (Val.of rfl) (Take.cons (Take.cons Take.head)) rfl inferInstance | exact OpP.loadW (Val.of rfl) (Take.cons (Take.cons (Take.cons Take.head))) rfl inferInstance | exact OpP.loadW (Val.of rfl) (Take.cons (Take.cons (Take.cons (Take.cons Take.head)))) rfl inferInstance | exact OpP.loadW (Val.of rfl) (Take.app Take.head) rfl inferInstance | exact OpP.loadW (Val.of rfl) (Take.app (Take.cons Take.head)) rfl inferInstance | exact OpP.loadW (Val.of rfl) (Take.cons (Take.app Take.head)) rfl inferInstance | exact OpP.loadW (Val.of rfl) (Take.app (Take.cons (Take.cons Take.head))) rfl inferInstance | exact OpP.loadW (Val.of rfl) (Take.cons (Take.app (Take.cons Take.head))) rfl inferInstance | exact OpP.loadW (Val.of rfl) (Take.cons (Take.cons (Take.app Take.head))) rfl inferInstance | exact OpP.loadW (Val.of rfl) (Take.app (Take.cons (Take.cons (Take.cons Take.head)))) rfl inferInstance | exact OpP.loadW (Val.of rfl) (Take.cons (Take.app (Take.cons (Take.cons Take.head)))) rfl inferInstance | exact OpP.loadW (Val.of rfl) (Take.cons (Take.cons (Take.app (Take.cons Take.head)))) rfl inferInstance | exact OpP.loadW (Val.of rfl) (Take.cons (Take.cons (Take.cons (Take.app Take.head)))) rfl inferInstance | exact OpP.loadO inferInstance (Val.of rfl) Take.head rfl | exact OpP.loadO inferInstance (Val.of rfl) (Take.cons Take.head) rfl | exact OpP.loadO inferInstance (Val.of rfl) (Take.cons (Take.cons Take.head)) rfl | exact OpP.loadO inferInstance (Val.of rfl) (Take.cons (Take.cons (Take.cons Take.head))) rfl | exact OpP.loadO inferInstance (Val.of rfl) (Take.cons (Take.cons (Take.cons (Take.cons Take.head)))) rfl | exact OpP.loadO inferInstance (Val.of rfl) (Take.app Take.head) rfl | exact OpP.loadO inferInstance (Val.of rfl) (Take.app (Take.cons Take.head)) rfl | exact OpP.loadO inferInstance (Val.of rfl) (Take.cons (Take.app Take.head)) rfl | exact OpP.loadO inferInstance (Val.of rfl) (Take.app (Take.cons (Take.cons Take.head))) rfl | exact OpP.loadO inferInstance (Val.of rfl) (Take.cons (Take.app (Take.cons Take.head))) rfl | exact OpP.loadO inferInstance (Val.of rfl) (Take.cons (Take.cons (Take.app Take.head))) rfl | exact OpP.loadO inferInstance (Val.of rfl) (Take.app (Take.cons (Take.cons (Take.cons Take.head)))) rfl | exact OpP.loadO inferInstance (Val.of rfl) (Take.cons (Take.app (Take.cons (Take.cons Take.head)))) rfl | exact OpP.loadO inferInstance (Val.of rfl) (Take.cons (Take.cons (Take.app (Take.cons Take.head)))) rfl | exact OpP.loadO inferInstance (Val.of rfl) (Take.cons (Take.cons (Take.cons (Take.app Take.head)))) rfl | exact OpP.loadN (Val.of rfl) (fun _ => ReadsAll.ghost (by assumption)) rfl inferInstance)) ?_
      refine RunL.callv rfl hf.1 rfl rfl Take.nothing (hf.2 h1 (hle2.trans hle1) j hlt sv sm sd hox) (fun v h3 N3 hle3 hx3 => ?_)
      obtain ⟨hv3, hN3⟩ := hx3
      subst hv3 hN3
      refine RunL.pure rfl rfl (OpG.plain rfl (OpP.not (Val.of rfl))) ?_
      refine RunL.nil ?_
      refine RunQ.then_normal ?_
      refine Run.cond rfl (fun hc2 => ?_) (fun hc2 => ?_)
      · have hp : p l[j] = false := by simpa using hc2
        rw [hp] at hsnoc
        refine Run.seq ?_
        refine Run.region' ?_
        refine RunL.pure rfl rfl (OpG.plain rfl (OpP.move (Val.of rfl))) ?_
        refine RunL.pure rfl rfl (OpG.plain rfl (OpP.move (Val.of rfl))) ?_
        refine RunL.pure rfl rfl (OpG.plain rfl (by first | exact OpP.loadW (Val.of rfl) Take.head rfl inferInstance | exact OpP.loadW (Val.of rfl) (Take.cons Take.head) rfl inferInstance | exact OpP.loadW (Val.of rfl) (Take.cons (Take.cons Take.head)) rfl inferInstance | exact OpP.loadW (Val.of rfl) (Take.cons (Take.cons (Take.cons Take.head))) rfl inferInstance | exact OpP.loadW (Val.of rfl) (Take.cons (Take.cons (Take.cons (Take.cons Take.head)))) rfl inferInstance | exact OpP.loadW (Val.of rfl) (Take.app Take.head) rfl inferInstance | exact OpP.loadW (Val.of rfl) (Take.app (Take.cons Take.head)) rfl inferInstance | exact OpP.loadW (Val.of rfl) (Take.cons (Take.app Take.head)) rfl inferInstance | exact OpP.loadW (Val.of rfl) (Take.app (Take.cons (Take.cons Take.head))) rfl inferInstance | exact OpP.loadW (Val.of rfl) (Take.cons (Take.app (Take.cons Take.head))) rfl inferInstance | exact OpP.loadW (Val.of rfl) (Take.cons (Take.cons (Take.app Take.head))) rfl inferInstance | exact OpP.loadW (Val.of rfl) (Take.app (Take.cons (Take.cons (Take.cons Take.head)))) rfl inferInstance | exact OpP.loadW (Val.of rfl) (Take.cons (Take.app (Take.cons (Take.cons Take.head)))) rfl inferInstance | exact OpP.loadW (Val.of rfl) (Take.cons (Take.cons (Take.app (Take.cons Take.head)))) rfl inferInstance | exact OpP.loadW (Val.of rfl) (Take.cons (Take.cons (Take.cons (Take.app Take.head)))) rfl inferInstance | exact OpP.loadO inferInstance (Val.of rfl) Take.head rfl | exact OpP.loadO inferInstance (Val.of rfl) (Take.cons Take.head) rfl | exact OpP.loadO inferInstance (Val.of rfl) (Take.cons (Take.cons Take.head)) rfl | exact OpP.loadO inferInstance (Val.of rfl) (Take.cons (Take.cons (Take.cons Take.head))) rfl | exact OpP.loadO inferInstance (Val.of rfl) (Take.cons (Take.cons (Take.cons (Take.cons Take.head)))) rfl | exact OpP.loadO inferInstance (Val.of rfl) (Take.app Take.head) rfl | exact OpP.loadO inferInstance (Val.of rfl) (Take.app (Take.cons Take.head)) rfl | exact OpP.loadO inferInstance (Val.of rfl) (Take.cons (Take.app Take.head)) rfl | exact OpP.loadO inferInstance (Val.of rfl) (Take.app (Take.cons (Take.cons Take.head))) rfl | exact OpP.loadO inferInstance (Val.of rfl) (Take.cons (Take.app (Take.cons Take.head))) rfl | exact OpP.loadO inferInstance (Val.of rfl) (Take.cons (Take.cons (Take.app Take.head))) rfl | exact OpP.loadO inferInstance (Val.of rfl) (Take.app (Take.cons (Take.cons (Take.cons Take.head)))) rfl | exact OpP.loadO inferInstance (Val.of rfl) (Take.cons (Take.app (Take.cons (Take.cons Take.head)))) rfl | exact OpP.loadO inferInstance (Val.of rfl) (Take.cons (Take.cons (Take.app (Take.cons Take.head)))) rfl | exact OpP.loadO inferInstance (Val.of rfl) (Take.cons (Take.cons (Take.cons (Take.app Take.head)))) rfl | exact OpP.loadN (Val.of rfl) (fun _ => ReadsAll.ghost (by assumption)) rfl inferInstance)) ?_
        refine RunL.pure rfl rfl (OpG.plain rfl (by first | exact OpP.indexSl (Val.of rfl) (Val.of rfl) (fun _ => by omega) inferInstance inferInstance | exact OpP.indexI (Val.of rfl) (Val.of rfl) (fun _ => by omega) (fun _ => by omega) inferInstance inferInstance)) ?_
        refine RunL.storeA (o := 0 + ii * 10) inferInstance rfl rfl (Take.cons Take.head) rfl rfl (by show 0 + ii * 10 + 10 ≤ cur.size; omega) ?_
        refine RunL.nil ?_
        refine RunQ.then_normal ?_
        refine Run.region' ?_
        refine RunL.pure rfl rfl (OpG.plain rfl (OpP.move (Val.of rfl))) ?_
        refine RunL.pure rfl rfl (OpG.plain rfl ((OpP.add64 (Val.of rfl) (Val.of rfl) (by omega) (by omega)).to (u := i64v ((ii + 1 : Nat) : Int)) (by congr 1))) ?_
        refine RunL.pure rfl rfl (OpG.plain rfl (OpP.assign (Val.of rfl))) ?_
        refine RunL.nil ?_
        refine RunQ.block_normal ?_
        refine RunQ.then_normal ?_
        refine Run.region' ?_
        refine RunL.pure rfl rfl (OpG.plain rfl (OpP.move (Val.of rfl))) ?_
        refine RunL.pure rfl rfl (OpG.plain rfl ((OpP.add64 (Val.of rfl) (Val.of rfl) (by omega) (by omega)).to (u := i64v ((j + 1 : Nat) : Int)) (by congr 1))) ?_
        refine RunL.pure rfl rfl (OpG.plain rfl (OpP.assign (Val.of rfl))) ?_
        refine RunL.nil ?_
        have hput := (hrp.mono (fun a cs hr => ActR.mono hle3 hr)).set (a := l[j]) (cs := actC l[j] sv sm sd) ⟨sv, sm, sd, rfl, hox.mono hle3⟩ rfl ii
        have hi10 : (ii + 1) * 10 ≤ l.length * 10 := Nat.mul_le_mul_right _ (by omega)
        refine RunQ.againT (l.length - (j + 1)) (by omega) ⟨ii + 1, j + 1, d.set ii l[j], _, css.set ii (actC l[j] sv sm sd), by omega, hlt, rfl, hle1.trans hle3, by simpa using hdl, ?_, ?_, ?_, ?_, hput, rfl, rfl⟩ ⟨rfl, rfl, rfl, rfl, trivial⟩ Take.head
        · rw [hsnoc, ← hdt, List.take_set, List.take_succ_eq_append_getElem (by omega), List.set_append_right _ _ (by simp; omega)]
          have : (d.take ii).length = ii := by simp; omega
          rw [this, Nat.sub_self]; rfl
        · have := congrArg (List.drop 1) hdd
          rw [List.drop_drop, List.drop_drop] at this
          rw [List.drop_set_of_lt (by omega)]; exact this
        · rw [List.size_toArray, putAt_length _ _ _ (by show 0 + ii * 10 + 10 ≤ cur.toList.length; omega)]; exact hcur
        · have hpt := putAt_take cur.toList (ii * 10) (l.length * 10) (actC l[j] sv sm sd) (by simp; omega) (by omega)
          rw [flatten_set hrp.each rfl (by rw [hrp.len]; omega), ← htk]
          rw [show ii * 10 + (actC l[j] sv sm sd).length = (ii + 1) * 10 by simp; omega] at hpt
          rw [← hpt, Nat.zero_add]
          rfl
      · have hp : p l[j] = true := by simpa using hc2
        rw [hp] at hsnoc
        refine Run.skip ?_
        refine RunQ.block_normal ?_
        refine RunQ.then_normal ?_
        refine Run.region' ?_
        refine RunL.pure rfl rfl (OpG.plain rfl (OpP.move (Val.of rfl))) ?_
        refine RunL.pure rfl rfl (OpG.plain rfl ((OpP.add64 (Val.of rfl) (Val.of rfl) (by omega) (by omega)).to (u := i64v ((j + 1 : Nat) : Int)) (by congr 1))) ?_
        refine RunL.pure rfl rfl (OpG.plain rfl (OpP.assign (Val.of rfl))) ?_
        refine RunL.nil ?_
        refine RunQ.againT (l.length - (j + 1)) (by omega) ⟨ii, j + 1, d, cur, css, by omega, hlt, rfl, hle1.trans hle3, hdl, ?_, ?_, hcs, htk, hrp.mono (fun a cs hr => ActR.mono hle3 hr), rfl, rfl⟩ ⟨rfl, rfl, rfl, rfl, trivial⟩ (Take.cons Take.head)
        · rw [hsnoc, hdt]; simp
        · have := congrArg (List.drop 1) hdd
          rw [List.drop_drop, List.drop_drop] at this
          exact this
    · have hge : j = l.length := by simp only [decide_eq_false_iff_not] at hc1; omega
      subst hge
      have hi10 : ii * 10 ≤ l.length * 10 := Nat.mul_le_mul_right _ (by omega)
      have hsub : (n - ii) * 10 = n * 10 - ii * 10 := by omega
      refine Run.exit ?_
      refine RunQ.then_exit ?_
      refine RunQ.then_exit ?_
      refine RunQ.block_exit ?_
      refine RunQ.then_normal ?_
      refine Run.seq ?_
      refine Run.region' ?_
      refine RunL.pure rfl rfl (OpG.plain rfl (OpP.move (Val.of rfl))) ?_
      refine RunL.pure rfl rfl (OpG.plain rfl (OpP.move (Val.of rfl))) ?_
      refine RunL.pure rfl rfl (OpG.plain rfl ((OpP.sliceLo (i := ii) (Val.of rfl) (Val.of rfl) (fun _ => by omega) inferInstance inferInstance).to (u := .slice (some ⟨b, ii * 10, none⟩) (n - ii) (c - ii)) (by rw [slAt_off _ _ _ _ (by omega)]))) ?_
      refine RunL.clear inferInstance inferInstance inferInstance rfl Take.head (by omega) rfl rfl fun zs hzs => ?_
      refine RunL.nil ?_
      refine RunQ.then_normal ?_
      refine Run.seq ?_
      refine Run.region' ?_
      refine RunL.pure rfl rfl (OpG.plain rfl (OpP.move (Val.of rfl))) ?_
      refine RunL.pure rfl rfl (OpG.plain rfl (OpP.move (Val.of rfl))) ?_
      refine RunL.pure rfl rfl (OpG.plain rfl (by first | exact OpP.sliceHi (Val.of rfl) (Val.of rfl) (fun _ => by omega) inferInstance ⟨_, inferInstance⟩ | exact OpP.sliceHiI (Val.of rfl) (Val.of rfl) (fun _ => by omega) (fun _ => by omega) inferInstance ⟨_, inferInstance⟩)) ?_
      refine RunL.pure rfl rfl (OpG.plain rfl (OpP.assign (Val.of rfl))) ?_
      refine RunL.nil ?_
      refine RunQ.then_normal ?_
      refine Run.ret ?_
      refine RunQ.ret1 rfl rfl ?_
      refine ⟨⟨some ⟨b, 0, none⟩, ii, c⟩, rfl, css.take ii, .inr ⟨b, _, rfl, rfl, by simp only; omega, hmx1, ?_, ?_, ?_⟩, ?_⟩
      · simp [hzs]; omega
      · rw [← flatten_take ii hrp.each, ← htk]
        simp only
        rw [List.append_assoc, List.take_append_of_le_length (by simp; omega), List.take_take, List.take_take, Nat.min_self, Nat.min_eq_left hi10]
      · rw [(hrp.take ii).length, List.length_take, Nat.min_eq_left (by omega)]
      · rw [List.take_length] at hdt
        rw [← hdt]
        exact hrp.take ii
end Go.Proofs.YtcckofgleghbgaaDoor
