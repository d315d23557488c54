/- Contracts: actset.Write, Plan. -/
import Derived.Test.YtcckofgleghbgaaDoorDel
import Derived.Laws.StructEq
namespace Go.Proofs.YtcckofgleghbgaaDoor
open Go Sx
/-- Structs of numbers, held against each other. -/
theorem run_eqInts {P : Program} {w : World} {d : Nat} {xs ys : Array Value} : ∀ {fs : List Field} {l : List (Nat × IntKind × Int × Int)}, fs.map (fun f => (f.name == "_", P.underlying f.type, f.offset)) = l.map (fun q => (false, some (TypeDesc.int q.2.1), q.1)) →
    (∀ q ∈ l, xs[q.1]? = some (.int q.2.1 q.2.2.1) ∧ ys[q.1]? = some (.int q.2.1 q.2.2.2)) → (Op.eqFields (d + 1) xs ys fs).run P w = .ok (l.all fun q => q.2.2.1 == q.2.2.2) w
  | [], [], _, _ => by simp [Op.eqFields]
  | [], q :: l, h, _ => by simp at h
  | f :: fs, [], h, _ => by simp at h
  | f :: fs, q :: l, h, hq => by
    simp only [List.map_cons, List.cons.injEq, Prod.mk.injEq] at h
    obtain ⟨⟨h1, h2, h3⟩, h4⟩ := h
    obtain ⟨g1, g2⟩ := hq q (List.mem_cons_self ..)
    have ih := run_eqInts (P := P) (w := w) (d := d) h4 (fun q hq' => hq q (List.mem_cons_of_mem _ hq'))
    have hagg : ∀ w, (isAgg f.type).run P w = .ok false w := fun w => by
      unfold isAgg
      simp only [Sem.run_bind, run_underlying h2, Result.andThen_ok, Sem.run_pure]
    have hne : ¬ f.name = "_" := by simpa using h1
    have p1 : (part f.type xs f.offset).run P w = .ok (.int q.2.1 q.2.2.1) w := by simp [part, hagg, h3, g1]
    have p2 : (part f.type ys f.offset).run P w = .ok (.int q.2.1 q.2.2.2) w := by simp [part, hagg, h3, g2]
    simp only [Op.eqFields, hne, ne_eq, not_false_eq_true, if_true, Sem.run_bind, p1, p2, Result.andThen_ok, run_equalIn_int w d f.type q.2.1 q.2.1 _ _ h2, List.all_cons]
    cases hb : (q.2.2.1 == q.2.2.2)
    · simp
    · simpa using ih
section
variable {B : Base} {E : Env} {A : Bool} {h : GH} {L : Own} {d : Option Nat} {t' ty : TypeId} {x y : Operand} {pos : String} {af : Array Edge} {g : Option (Nat × Bool)}
theorem OpP.eql_place {p q : PlaceM} (hx : Val E A x (placeV p)) (hy : Val E A y (placeV q)) : OpP Tryd.prog B E A h L ⟨d, .binOp .eql 60 x y t', ty, pos, af, g⟩ (.bool (decide (p = q))) :=
  .of_run fun hA _ _ w ha _ => by
    have hg : (eqGuard .eql 60 x y (placeV p) (placeV q)).run Tryd.prog w = .ok () w := run_eqGuard_agg w .eql 60 x y _ _ (by kernel_rfl)
    have he : (Op.equalIn (9998 + 1 + 1) 60 (placeV p) (placeV q)).run Tryd.prog w = .ok (p.rank == q.rank && (p.kind == q.kind && p.field == q.field)) w := by
      rw [run_equalIn_agg w (9998 + 1) 60 _ _ (by kernel_rfl) (by kernel_rfl)]
      have := run_eqInts (P := Tryd.prog) (w := w) (d := 9998) (xs := #[i64v p.rank, i64v p.kind, i64v p.field]) (ys := #[i64v q.rank, i64v q.kind, i64v q.field]) (fs := (Tryd.prog.fieldsOf 60).toList) (l := [(0, .i64, p.rank, q.rank), (1, .i64, p.kind, q.kind), (2, .i64, p.field, q.field)]) (by kernel_rfl) (by
        intro z hz
        simp only [List.mem_cons, List.not_mem_nil, or_false] at hz
        rcases hz with rfl | rfl | rfl <;> exact ⟨rfl, rfl⟩)
      rw [this]
      simp
    have he2 : (p.rank == q.rank && (p.kind == q.kind && p.field == q.field)) = decide (p = q) := by
      obtain ⟨a, b, c⟩ := p
      obtain ⟨a', b', c'⟩ := q
      simp only [PlaceM.mk.injEq]
      by_cases h1 : a = a' <;> by_cases h2 : b = b' <;> by_cases h3 : c = c' <;> simp [h1, h2, h3]
    rw [he2] at he
    simp only [execOp, hx hA _ _ ha, hy hA _ _ ha]
    simp only [Sem.run_bind, hg, Result.andThen_ok]
    have hr := run_eql_struct (P := Tryd.prog) w 60 #[i64v p.rank, i64v p.kind, i64v p.field] #[i64v q.rank, i64v q.kind, i64v q.field]
    rw [show (10000 : Nat) = 9998 + 1 + 1 from rfl, he] at hr
    simp only [Result.andThen_ok] at hr
    simp [hr]
end
/-- An action written into a set. -/
def setPut (d : List ActM) (x : ActM) : List ActM :=
  let i := findGo (fun y => decide (placeOrd (placeOf y) (placeOf x) ≥ 0)) 0 d
  if i < 0 then d ++ [x] else if placeOf d[i.toNat]! = placeOf x then d.set i.toNat x else d.take i.toNat ++ x :: d.drop i.toNat
theorem setPut_length (d : List ActM) (x : ActM) : (setPut d x).length ≤ d.length + 1 := by
  unfold setPut
  simp only
  split
  · simp
  · split
    · simp
    · simp; omega
def setWrite (set l : List ActM) : List ActM × Int := if (!setRight set || l.any fun x => !actMay x) then ([], 10001) else (l.foldl setPut set, 0)
theorem OwnSl.some_of_pos {e : TypeId} {size : Nat} {s : Sl} {xs : List Value} {N : Own} (ho : OwnSl e size s xs N) (hn : 0 < s.n) : s.p ≠ none := by
  rcases ho with ⟨rfl, _, _⟩ | ⟨_, _, hp, _⟩
  · simp at hn
  · rw [hp]; simp
theorem actset_Write1_ok {h : GH} (l : List ActM) : ActPred 42 #[] h [] l (fun x => !actMay x) := ⟨by kernel_rfl, fun _ _ _ _ _ _ _ ho => actset_Write1 ho⟩
theorem acts_bad {h : GH} {s1 : Sl} {l : List ActM} (hl : IsActs h s1 l) : Ctr Tryd.prog 41 [s1.v, .func (.func 42) #[] #[]].toArray h [] fun r _ _ => r = .bool (l.any fun x => !actMay x) :=
  Ctr.mono (acts_ContainsFunc hl (actset_Write1_ok l)) fun _ _ _ _ hr => hr.1
set_option maxHeartbeats 2000000 in
set_option maxRecDepth 100000 in
theorem actset_Write0 {h : GH} {s s1 : Sl} {set l : List ActM} (hs : IsActs h s set) (hl : IsActs h s1 l) (hsm : ∀ x ∈ set, ActSmall x) (hlm : ∀ x ∈ l, ActSmall x) (hlen : set.length + l.length ≤ 4000000) : Ctr Tryd.prog 16 [s.v, s1.v].toArray h [] fun r h' N => ∃ s' : Sl, r = .tuple #[s'.v, i64v (setWrite set l).2] ∧ OwnActs h' s' (setWrite set l).1 N := by
  have hn1 := hl.n
  refine Ctr.of_run Tryd.func16 rfl rfl rfl fun w0 => ?_
  refine Run.seq ?_
  refine Run.region' ?_
  refine RunL.pure rfl rfl (OpG.plain rfl (OpP.assign (Val.of rfl))) ?_
  refine RunL.pure rfl rfl (OpG.plain rfl (OpP.assign (Val.of rfl))) ?_
  refine RunL.nil ?_
  refine RunQ.then_normal ?_
  refine Run.seq ?_
  refine Run.seq ?_
  refine Run.region' ?_
  refine RunL.pure rfl rfl (OpG.plain rfl (OpP.move (Val.of rfl))) ?_
  refine RunL.pure rfl rfl (OpG.plain rfl (OpP.call (by kernel_rfl) (.cons (Val.of rfl) .nil) (fun hA => by first | (have hct := actset_Right hs; exact hct) | exact actset_Right hs))) ?_
  refine RunL.pure rfl rfl (OpG.plain rfl (OpP.not (Val.of rfl))) ?_
  refine RunL.pure rfl rfl (OpG.plain rfl (OpP.move (Val.of rfl))) ?_
  refine RunL.pure rfl rfl (OpG.onF rfl rfl rfl (OpP.move (Val.of rfl))) ?_
  refine RunL.pure rfl rfl (OpG.onF rfl rfl rfl (OpP.call (by kernel_rfl) (.cons (Val.lz rfl) (.cons (Val.of rfl) .nil)) (fun hA => by first | (have hct := acts_bad hl; exact hct) | exact acts_bad hl))) ?_
  refine RunL.pure rfl rfl (OpG.plain rfl (OpP.pick_or rfl rfl rfl)) ?_
  refine RunL.nil ?_
  refine RunQ.then_normal ?_
  refine Run.cond rfl (fun hc0 => ?_) (fun hc0 => ?_)
  · have h0 : (!setRight set || l.any fun x => !actMay x) = true := hc0
    refine Run.seq ?_
    refine Run.region' ?_
    refine RunL.pure rfl rfl (OpG.plain rfl (OpP.assign (Val.of rfl))) ?_
    refine RunL.pure rfl rfl (OpG.plain rfl (OpP.assign (Val.of rfl))) ?_
    refine RunL.nil ?_
    refine RunQ.then_normal ?_
    refine Run.ret ?_
    refine RunQ.then_ret ?_
    refine RunQ.ret2 rfl rfl rfl ?_
    refine ⟨Sl.none, by simp [setWrite, h0], ?_⟩
    rw [setWrite, h0]; exact OwnRep.nil
  · have h0 : (!setRight set || l.any fun x => !actMay x) = false := hc0
    refine Run.skip ?_
    refine RunQ.then_normal ?_
    refine Run.seq ?_
    refine Run.region' ?_
    refine RunL.pure rfl rfl (OpG.plain rfl (OpP.move (Val.of rfl))) ?_
    refine RunL.call rfl (by kernel_rfl) rfl Take.nothing (acts_Copy hs hsm) (fun v h2 N2 hle2 hx2 => ?_)
    obtain ⟨s2, hv2, hp2, ho2⟩ := hx2
    subst hv2
    refine RunL.pure rfl rfl (OpG.plain rfl (OpP.assign (Val.of rfl))) ?_
    refine RunL.nil ?_
    refine RunQ.then_normal ?_
    refine Run.seq ?_
    refine Run.seq ?_
    refine Run.region' ?_
    refine RunL.pure rfl rfl (OpG.plain rfl (OpP.move (Val.of rfl))) ?_
    refine RunL.pure rfl rfl (OpG.plain rfl (OpP.lenSl (Val.of rfl) inferInstance)) ?_
    refine RunL.pure rfl rfl (OpG.plain rfl (OpP.move (Val.of rfl))) ?_
    refine RunL.nil ?_
    refine RunQ.then_normal ?_
    refine Run.block ?_
    refine Run.loopT (fun m E h' L' => ∃ (k : Nat) (s' : Sl) (d : List ActM), k ≤ l.length ∧ m = l.length - k ∧ GH.le h h' ∧ d.length ≤ set.length + k ∧ l.foldl setPut set = (l.drop k).foldl setPut d ∧ OwnActs h' s' d L' ∧ E = [(20, s1.v), (21, .int .i64 (s1.n : Int)), (22, i64v (k : Int)), (6, s'.v)]) l.length ⟨0, s2, set, Nat.zero_le _, rfl, hle2, by omega, rfl, by rw [List.append_nil]; exact ho2, rfl⟩ ⟨rfl, rfl, rfl, rfl, trivial⟩ Take.whole ?_
    rintro m E1 h1 N ⟨k, s', d, hk, rfl, hle1, hdl, hz, ho, rfl⟩
    have hsn := OwnRep.n ho (by decide)
    refine Run.seq ?_
    refine Run.region' ?_
    refine RunL.pure rfl rfl (OpG.plain rfl (OpP.bin (Val.of rfl) (Val.of rfl) rfl)) ?_
    refine RunL.nil ?_
    refine RunQ.then_normal ?_
    refine Run.seq ?_
    refine Run.cond rfl (fun hc1 => ?_) (fun hc1 => ?_)
    · have hlt : k < l.length := by simp only [decide_eq_true_eq] at hc1; omega
      obtain ⟨b, o, c, rfl, hle, hcell⟩ := (hl.mono hle1).at (by intro e; subst e; simp at hlt)
      obtain ⟨sv, sm, sd, hox, hx⟩ := hcell k hlt
      rw [List.drop_eq_getElem_cons hlt, List.foldl_cons] at hz
      have hsmall := hlm _ (List.getElem_mem hlt)
      refine Run.skip ?_
      refine RunQ.then_normal ?_
      refine Run.seq ?_
      refine Run.block ?_
      refine Run.seq ?_
      refine Run.region' ?_
      refine RunL.pure rfl rfl (OpG.plain rfl (by first | exact OpP.indexSl (Val.of rfl) (Val.of rfl) (fun _ => by omega) inferInstance inferInstance | exact OpP.indexI (Val.of rfl) (Val.of rfl) (fun _ => by omega) (fun _ => by omega) inferInstance inferInstance)) ?_
      refine RunL.pure rfl rfl (OpG.plain rfl (OpP.loadN (Val.of rfl) (fun hA => ReadsAll.ghost hx) rfl inferInstance)) ?_
      refine RunL.alloc inferInstance rfl rfl fun b1 => ?_
      apply RunL.store inferInstance rfl rfl
      · first | exact Take.head | exact (Take.cons Take.head) | exact (Take.cons (Take.cons Take.head)) | exact (Take.cons (Take.cons (Take.cons Take.head))) | exact (Take.cons (Take.cons (Take.cons (Take.cons Take.head)))) | exact (Take.app Take.head) | exact (Take.app (Take.cons Take.head)) | exact (Take.cons (Take.app Take.head)) | exact (Take.app (Take.cons (Take.cons Take.head))) | exact (Take.cons (Take.app (Take.cons Take.head))) | exact (Take.cons (Take.cons (Take.app Take.head))) | exact (Take.app (Take.cons (Take.cons (Take.cons Take.head)))) | exact (Take.cons (Take.app (Take.cons (Take.cons Take.head)))) | exact (Take.cons (Take.cons (Take.app (Take.cons Take.head)))) | exact (Take.cons (Take.cons (Take.cons (Take.app Take.head))))
      · rfl
      · rfl
      · rfl
      · rfl
      refine RunL.nil ?_
      refine RunQ.then_normal ?_
      refine Run.seq ?_
      refine Run.region' ?_
      refine RunL.pure rfl rfl (OpG.plain rfl (by first | exact OpP.loadW (Val.of rfl) Take.head rfl inferInstance | exact OpP.loadW (Val.of rfl) (Take.cons Take.head) rfl inferInstance | exact OpP.loadW (Val.of rfl) (Take.cons (Take.cons Take.head)) rfl inferInstance | exact OpP.loadW (Val.of rfl) (Take.cons (Take.cons (Take.cons Take.head))) rfl inferInstance | exact OpP.loadW (Val.of rfl) (Take.cons (Take.cons (Take.cons (Take.cons Take.head)))) rfl inferInstance | exact OpP.loadW (Val.of rfl) (Take.app Take.head) rfl inferInstance | exact OpP.loadW (Val.of rfl) (Take.app (Take.cons Take.head)) rfl inferInstance | exact OpP.loadW (Val.of rfl) (Take.cons (Take.app Take.head)) rfl inferInstance | exact OpP.loadW (Val.of rfl) (Take.app (Take.cons (Take.cons Take.head))) rfl inferInstance | exact OpP.loadW (Val.of rfl) (Take.cons (Take.app (Take.cons Take.head))) rfl inferInstance | exact OpP.loadW (Val.of rfl) (Take.cons (Take.cons (Take.app Take.head))) rfl inferInstance | exact OpP.loadW (Val.of rfl) (Take.app (Take.cons (Take.cons (Take.cons Take.head)))) rfl inferInstance | exact OpP.loadW (Val.of rfl) (Take.cons (Take.app (Take.cons (Take.cons Take.head)))) rfl inferInstance | exact OpP.loadW (Val.of rfl) (Take.cons (Take.cons (Take.app (Take.cons Take.head)))) rfl inferInstance | exact OpP.loadW (Val.of rfl) (Take.cons (Take.cons (Take.cons (Take.app Take.head)))) rfl inferInstance | exact OpP.loadO inferInstance (Val.of rfl) Take.head rfl | exact OpP.loadO inferInstance (Val.of rfl) (Take.cons Take.head) rfl | exact OpP.loadO inferInstance (Val.of rfl) (Take.cons (Take.cons Take.head)) rfl | exact OpP.loadO inferInstance (Val.of rfl) (Take.cons (Take.cons (Take.cons Take.head))) rfl | exact OpP.loadO inferInstance (Val.of rfl) (Take.cons (Take.cons (Take.cons (Take.cons Take.head)))) rfl | exact OpP.loadO inferInstance (Val.of rfl) (Take.app Take.head) rfl | exact OpP.loadO inferInstance (Val.of rfl) (Take.app (Take.cons Take.head)) rfl | exact OpP.loadO inferInstance (Val.of rfl) (Take.cons (Take.app Take.head)) rfl | exact OpP.loadO inferInstance (Val.of rfl) (Take.app (Take.cons (Take.cons Take.head))) rfl | exact OpP.loadO inferInstance (Val.of rfl) (Take.cons (Take.app (Take.cons Take.head))) rfl | exact OpP.loadO inferInstance (Val.of rfl) (Take.cons (Take.cons (Take.app Take.head))) rfl | exact OpP.loadO inferInstance (Val.of rfl) (Take.app (Take.cons (Take.cons (Take.cons Take.head)))) rfl | exact OpP.loadO inferInstance (Val.of rfl) (Take.cons (Take.app (Take.cons (Take.cons Take.head)))) rfl | exact OpP.loadO inferInstance (Val.of rfl) (Take.cons (Take.cons (Take.app (Take.cons Take.head)))) rfl | exact OpP.loadO inferInstance (Val.of rfl) (Take.cons (Take.cons (Take.cons (Take.app Take.head)))) rfl | exact OpP.loadN (Val.of rfl) (fun _ => ReadsAll.ghost (by assumption)) rfl inferInstance)) ?_
      refine RunL.pure rfl rfl (OpG.plain rfl (OpP.call (by kernel_rfl) (.cons (Val.of rfl) .nil) (fun hA => by first | (have hct := actset_of; exact hct) | exact actset_of))) ?_
      refine RunL.alloc inferInstance rfl rfl fun b2 => ?_
      apply RunL.store inferInstance rfl rfl
      · first | exact Take.head | exact (Take.cons Take.head) | exact (Take.cons (Take.cons Take.head)) | exact (Take.cons (Take.cons (Take.cons Take.head))) | exact (Take.cons (Take.cons (Take.cons (Take.cons Take.head)))) | exact (Take.app Take.head) | exact (Take.app (Take.cons Take.head)) | exact (Take.cons (Take.app Take.head)) | exact (Take.app (Take.cons (Take.cons Take.head))) | exact (Take.cons (Take.app (Take.cons Take.head))) | exact (Take.cons (Take.cons (Take.app Take.head))) | exact (Take.app (Take.cons (Take.cons (Take.cons Take.head)))) | exact (Take.cons (Take.app (Take.cons (Take.cons Take.head)))) | exact (Take.cons (Take.cons (Take.app (Take.cons Take.head)))) | exact (Take.cons (Take.cons (Take.cons (Take.app Take.head))))
      · rfl
      · rfl
      · rfl
      · rfl
      refine RunL.nil ?_
      refine RunQ.then_normal ?_
      refine Run.seq ?_
      refine Run.region' ?_
      refine RunL.pure rfl rfl (OpG.plain rfl (OpP.move (Val.of rfl))) ?_
      refine RunL.pure rfl rfl (OpG.plain rfl (OpP.makeFunc (.cons (Val.of rfl) .nil))) ?_
      have hpr : ActPred 47 #[ptr b2] h1 [(b2, placeO (placeOf l[k]))] d (fun y => decide (placeOrd (placeOf y) (placeOf l[k]) ≥ 0)) := ⟨by kernel_rfl, fun h1 hle i hi sv sm sd ho => actset_Write2⟩
      have hct := acts_IndexFunc (N := N) (OwnActs.seen ho (by omega) (fun p hp => List.mem_append_left _ hp)) hpr
      refine RunL.call rfl (by kernel_rfl) rfl (show Take (N ++ [(b2, placeO (placeOf l[k]))]) _ [_] from (Take.two Take.head (Take.cons Take.whole)).trans (List.Perm.append_right _ (List.perm_append_comm (l₁ := [(b2, placeO (placeOf l[k]))])))) hct (fun v h2 N2 hle2 hx2 => ?_)
      obtain ⟨hv, hN⟩ := hx2
      subst hv hN
      refine RunL.perm (L' := (b2, placeO (placeOf l[k])) :: (b1, .cells #[i64v l[k].typ, u64v l[k].a, u64v l[k].b, i64v l[k].set.cls, i64v l[k].set.fld, .bool l[k].set.has, u64v l[k].set.exp, sv.v, sm.v, sd.v] 41) :: N) (by rw [List.append_assoc]; exact List.perm_append_comm) ?_
      have ho1 := ho.mono hle2
      have hox1 := hox.mono hle2
      obtain ⟨gi, hgi⟩ : ∃ gi, gi = findGo (fun y => decide (placeOrd (placeOf y) (placeOf l[k]) ≥ 0)) 0 d := ⟨_, rfl⟩
      rw [← hgi]
      refine RunL.pure rfl rfl (OpG.plain rfl (OpP.assign (Val.of rfl))) ?_
      refine RunL.nil ?_
      refine RunQ.then_normal ?_
      refine Run.block ?_
      refine Run.seq ?_
      refine Run.region' ?_
      refine RunL.pure rfl rfl (OpG.plain rfl (OpP.move (Val.of rfl))) ?_
      refine RunL.pure rfl rfl (OpG.plain rfl (OpP.bin (Val.of rfl) (Val.of rfl) rfl)) ?_
      refine RunL.pure rfl rfl (OpG.plain rfl (OpP.assign (Val.of rfl))) ?_
      refine RunL.nil ?_
      refine RunQ.then_normal ?_
      refine Run.cond rfl (fun hc2 => ?_) (fun hc2 => ?_)
      · have hneg : gi < 0 := by simpa using hc2
        have hput : setPut d l[k] = d ++ [l[k]] := by unfold setPut; rw [← hgi]; simp only; rw [if_pos hneg]
        refine Run.region' ?_
        refine RunL.pure rfl rfl (OpG.plain rfl (OpP.move (Val.of rfl))) ?_
        refine RunL.pure rfl rfl (OpG.plain rfl (by first | exact OpP.loadW (Val.of rfl) Take.head rfl inferInstance | exact OpP.loadW (Val.of rfl) (Take.cons Take.head) rfl inferInstance | exact OpP.loadW (Val.of rfl) (Take.cons (Take.cons Take.head)) rfl inferInstance | exact OpP.loadW (Val.of rfl) (Take.cons (Take.cons (Take.cons Take.head))) rfl inferInstance | exact OpP.loadW (Val.of rfl) (Take.cons (Take.cons (Take.cons (Take.cons Take.head)))) rfl inferInstance | exact OpP.loadW (Val.of rfl) (Take.app Take.head) rfl inferInstance | exact OpP.loadW (Val.of rfl) (Take.app (Take.cons Take.head)) rfl inferInstance | exact OpP.loadW (Val.of rfl) (Take.cons (Take.app Take.head)) rfl inferInstance | exact OpP.loadW (Val.of rfl) (Take.app (Take.cons (Take.cons Take.head))) rfl inferInstance | exact OpP.loadW (Val.of rfl) (Take.cons (Take.app (Take.cons Take.head))) rfl inferInstance | exact OpP.loadW (Val.of rfl) (Take.cons (Take.cons (Take.app Take.head))) rfl inferInstance | exact OpP.loadW (Val.of rfl) (Take.app (Take.cons (Take.cons (Take.cons Take.head)))) rfl inferInstance | exact OpP.loadW (Val.of rfl) (Take.cons (Take.app (Take.cons (Take.cons Take.head)))) rfl inferInstance | exact OpP.loadW (Val.of rfl) (Take.cons (Take.cons (Take.app (Take.cons Take.head)))) rfl inferInstance | exact OpP.loadW (Val.of rfl) (Take.cons (Take.cons (Take.cons (Take.app Take.head)))) rfl inferInstance | exact OpP.loadO inferInstance (Val.of rfl) Take.head rfl | exact OpP.loadO inferInstance (Val.of rfl) (Take.cons Take.head) rfl | exact OpP.loadO inferInstance (Val.of rfl) (Take.cons (Take.cons Take.head)) rfl | exact OpP.loadO inferInstance (Val.of rfl) (Take.cons (Take.cons (Take.cons Take.head))) rfl | exact OpP.loadO inferInstance (Val.of rfl) (Take.cons (Take.cons (Take.cons (Take.cons Take.head)))) rfl | exact OpP.loadO inferInstance (Val.of rfl) (Take.app Take.head) rfl | exact OpP.loadO inferInstance (Val.of rfl) (Take.app (Take.cons Take.head)) rfl | exact OpP.loadO inferInstance (Val.of rfl) (Take.cons (Take.app Take.head)) rfl | exact OpP.loadO inferInstance (Val.of rfl) (Take.app (Take.cons (Take.cons Take.head))) rfl | exact OpP.loadO inferInstance (Val.of rfl) (Take.cons (Take.app (Take.cons Take.head))) rfl | exact OpP.loadO inferInstance (Val.of rfl) (Take.cons (Take.cons (Take.app Take.head))) rfl | exact OpP.loadO inferInstance (Val.of rfl) (Take.app (Take.cons (Take.cons (Take.cons Take.head)))) rfl | exact OpP.loadO inferInstance (Val.of rfl) (Take.cons (Take.app (Take.cons (Take.cons Take.head)))) rfl | exact OpP.loadO inferInstance (Val.of rfl) (Take.cons (Take.cons (Take.app (Take.cons Take.head)))) rfl | exact OpP.loadO inferInstance (Val.of rfl) (Take.cons (Take.cons (Take.cons (Take.app Take.head)))) rfl | exact OpP.loadN (Val.of rfl) (fun _ => ReadsAll.ghost (by assumption)) rfl inferInstance)) ?_
        refine RunL.call rfl (by kernel_rfl) rfl Take.nothing (action_CopyI hox1 hsmall) (fun v h3 N3 hle3 hx3 => ?_)
        obtain ⟨hN3, sv3, sm3, sd3, hv3, hox3⟩ := hx3
        subst hN3 hv3
        refine RunL.buildSlice inferInstance inferInstance inferInstance rfl rfl rfl rfl rfl rfl fun b3 => ?_
        obtain ⟨css, hcs, hrp⟩ := ho1.mono hle3
        refine RunL.append inferInstance inferInstance inferInstance inferInstance (s := s') (r := ⟨some ⟨b3, 0, none⟩, 1, 1⟩) rfl rfl rfl hcs (Take.cons (Take.cons (Take.cons Take.whole))) (SrcAt.built (m := 1) (Take.app Take.head) rfl) (ActR.one ⟨sv3, sm3, sd3, rfl, hox3⟩) (by simp [maxLen]; omega) (by simp; omega) rfl rfl fun s2 N2 hn2 ho2 => ?_
        refine RunL.pure rfl rfl (OpG.plain rfl (OpP.assign (Val.of rfl))) ?_
        refine RunL.nil ?_
        refine RunQ.block_normal ?_
        refine RunQ.block_normal ?_
        refine RunQ.then_normal ?_
        refine Run.region' ?_
        refine RunL.pure rfl rfl (OpG.plain rfl (by first | exact OpP.add64 (Val.of rfl) (Val.of rfl) (by omega) (by omega) | exact OpP.bin (Val.of rfl) (Val.of rfl) rfl)) ?_
        refine RunL.pure rfl rfl (OpG.plain rfl (OpP.move (Val.of rfl))) ?_
        refine RunL.nil ?_
        refine RunQ.againT (l.length - (k + 1)) (by omega) ⟨k + 1, s2, d ++ [l[k]], by omega, rfl, hle1.trans (hle2.trans hle3), by simp; omega, by rw [hz, hput], ?_, rfl⟩ ⟨rfl, rfl, rfl, rfl, trivial⟩ Take.here
        exact OwnRep.snoc hrp ⟨sv3, sm3, sd3, rfl, hox3⟩ rfl ho2
      · have hneg : ¬ gi < 0 := by simpa using hc2
        have hm1 : findGo (fun y => decide (placeOrd (placeOf y) (placeOf l[k]) ≥ 0)) 0 d ≠ -1 := by rw [← hgi]; omega
        obtain ⟨i0, hi0, hfi, _, _, _⟩ := findGo_some hm1
        rw [Nat.zero_add, ← hgi] at hfi
        subst hfi
        obtain ⟨bo, curo, co, csso, hs1, hN1, hlc1, hmx1, hcs1, htk1, hrp1, hat1⟩ := OwnRep.at ho1 (by decide) (by intro e; subst e; simp at hi0)
        subst hs1 hN1
        obtain ⟨csx, ⟨svx, smx, sdx, rfl, hoxx⟩, hclx, hgetx⟩ := hat1 i0 hi0
        have hread : ∀ (p q : Nat × Obj), ReadsAll h2 (p :: q :: [(bo, .cells curo 41)]) bo (0 + i0 * 10) (actC d[i0] svx smx sdx) := fun p q => ReadsAll.at (Take.cons (Take.cons Take.head)) (by intro q v hv; rw [Nat.zero_add]; exact hgetx q v hv)
        have hi10 : (i0 + 1) * 10 ≤ d.length * 10 := Nat.mul_le_mul_right _ hi0
        have hlc10 : d.length * 10 ≤ co * 10 := Nat.mul_le_mul_right _ hlc1
        refine Run.seq ?_
        apply Run.drawn 8 [_, _, _, _, _, _, _, _] (by kernel_rfl) rfl (by kernel_rfl)
        · refine FrontOk.cons (OpG.plain rfl (OpP.move (Val.of rfl))) ?_
          refine FrontOk.cons (OpG.plain rfl (OpP.move (Val.of rfl))) ?_
          refine FrontOk.cons (OpG.plain rfl (OpP.indexSl (i := i0) (Val.of rfl) (Val.of rfl) (fun _ => hi0) inferInstance inferInstance)) ?_
          refine FrontOk.cons (OpG.plain rfl (OpP.loadN (Val.of rfl) (fun hA => hread _ _) rfl inferInstance)) ?_
          refine FrontOk.cons (OpG.plain rfl (OpP.call (by kernel_rfl) (.cons (Val.of rfl) .nil) (fun hA => by first | (have hct := actset_of; exact hct) | exact actset_of))) ?_
          refine FrontOk.cons (OpG.plain rfl (by first | exact OpP.loadW (Val.of rfl) Take.head rfl inferInstance | exact OpP.loadW (Val.of rfl) (Take.cons Take.head) rfl inferInstance | exact OpP.loadW (Val.of rfl) (Take.cons (Take.cons Take.head)) rfl inferInstance | exact OpP.loadW (Val.of rfl) (Take.cons (Take.cons (Take.cons Take.head))) rfl inferInstance | exact OpP.loadW (Val.of rfl) (Take.cons (Take.cons (Take.cons (Take.cons Take.head)))) rfl inferInstance | exact OpP.loadW (Val.of rfl) (Take.app Take.head) rfl inferInstance | exact OpP.loadW (Val.of rfl) (Take.app (Take.cons Take.head)) rfl inferInstance | exact OpP.loadW (Val.of rfl) (Take.cons (Take.app Take.head)) rfl inferInstance | exact OpP.loadW (Val.of rfl) (Take.app (Take.cons (Take.cons Take.head))) rfl inferInstance | exact OpP.loadW (Val.of rfl) (Take.cons (Take.app (Take.cons Take.head))) rfl inferInstance | exact OpP.loadW (Val.of rfl) (Take.cons (Take.cons (Take.app Take.head))) rfl inferInstance | exact OpP.loadW (Val.of rfl) (Take.app (Take.cons (Take.cons (Take.cons Take.head)))) rfl inferInstance | exact OpP.loadW (Val.of rfl) (Take.cons (Take.app (Take.cons (Take.cons Take.head)))) rfl inferInstance | exact OpP.loadW (Val.of rfl) (Take.cons (Take.cons (Take.app (Take.cons Take.head)))) rfl inferInstance | exact OpP.loadW (Val.of rfl) (Take.cons (Take.cons (Take.cons (Take.app Take.head)))) rfl inferInstance | exact OpP.loadO inferInstance (Val.of rfl) Take.head rfl | exact OpP.loadO inferInstance (Val.of rfl) (Take.cons Take.head) rfl | exact OpP.loadO inferInstance (Val.of rfl) (Take.cons (Take.cons Take.head)) rfl | exact OpP.loadO inferInstance (Val.of rfl) (Take.cons (Take.cons (Take.cons Take.head))) rfl | exact OpP.loadO inferInstance (Val.of rfl) (Take.cons (Take.cons (Take.cons (Take.cons Take.head)))) rfl | exact OpP.loadO inferInstance (Val.of rfl) (Take.app Take.head) rfl | exact OpP.loadO inferInstance (Val.of rfl) (Take.app (Take.cons Take.head)) rfl | exact OpP.loadO inferInstance (Val.of rfl) (Take.cons (Take.app Take.head)) rfl | exact OpP.loadO inferInstance (Val.of rfl) (Take.app (Take.cons (Take.cons Take.head))) rfl | exact OpP.loadO inferInstance (Val.of rfl) (Take.cons (Take.app (Take.cons Take.head))) rfl | exact OpP.loadO inferInstance (Val.of rfl) (Take.cons (Take.cons (Take.app Take.head))) rfl | exact OpP.loadO inferInstance (Val.of rfl) (Take.app (Take.cons (Take.cons (Take.cons Take.head)))) rfl | exact OpP.loadO inferInstance (Val.of rfl) (Take.cons (Take.app (Take.cons (Take.cons Take.head)))) rfl | exact OpP.loadO inferInstance (Val.of rfl) (Take.cons (Take.cons (Take.app (Take.cons Take.head)))) rfl | exact OpP.loadO inferInstance (Val.of rfl) (Take.cons (Take.cons (Take.cons (Take.app Take.head)))) rfl | exact OpP.loadN (Val.of rfl) (fun _ => ReadsAll.ghost (by assumption)) rfl inferInstance)) ?_
          refine FrontOk.cons (OpG.plain rfl (OpP.eql_place (Val.of rfl) (Val.of rfl))) ?_
          refine FrontOk.cons (OpG.plain rfl (OpP.assign (Val.of rfl))) ?_
          exact FrontOk.nil
        · rfl
        · rfl
        refine RunL.nil ?_
        refine RunQ.then_normal ?_
        refine Run.cond rfl (fun hc3 => ?_) (fun hc3 => ?_)
        · have heq : placeOf d[i0] = placeOf l[k] := by simpa using hc3
          have hput : setPut d l[k] = d.set i0 l[k] := by
            unfold setPut; rw [← hgi]; simp only; rw [if_neg hneg, if_pos]
            · simp
            · rw [Int.toNat_natCast, getElem!_pos d i0 hi0]; exact heq
          refine Run.region' ?_
          refine RunL.pure rfl rfl (OpG.plain rfl (OpP.move (Val.of rfl))) ?_
          refine RunL.pure rfl rfl (OpG.plain rfl (OpP.move (Val.of rfl))) ?_
          refine RunL.pure rfl rfl (OpG.plain rfl (by first | exact OpP.loadW (Val.of rfl) Take.head rfl inferInstance | exact OpP.loadW (Val.of rfl) (Take.cons Take.head) rfl inferInstance | exact OpP.loadW (Val.of rfl) (Take.cons (Take.cons Take.head)) rfl inferInstance | exact OpP.loadW (Val.of rfl) (Take.cons (Take.cons (Take.cons Take.head))) rfl inferInstance | exact OpP.loadW (Val.of rfl) (Take.cons (Take.cons (Take.cons (Take.cons Take.head)))) rfl inferInstance | exact OpP.loadW (Val.of rfl) (Take.app Take.head) rfl inferInstance | exact OpP.loadW (Val.of rfl) (Take.app (Take.cons Take.head)) rfl inferInstance | exact OpP.loadW (Val.of rfl) (Take.cons (Take.app Take.head)) rfl inferInstance | exact OpP.loadW (Val.of rfl) (Take.app (Take.cons (Take.cons Take.head))) rfl inferInstance | exact OpP.loadW (Val.of rfl) (Take.cons (Take.app (Take.cons Take.head))) rfl inferInstance | exact OpP.loadW (Val.of rfl) (Take.cons (Take.cons (Take.app Take.head))) rfl inferInstance | exact OpP.loadW (Val.of rfl) (Take.app (Take.cons (Take.cons (Take.cons Take.head)))) rfl inferInstance | exact OpP.loadW (Val.of rfl) (Take.cons (Take.app (Take.cons (Take.cons Take.head)))) rfl inferInstance | exact OpP.loadW (Val.of rfl) (Take.cons (Take.cons (Take.app (Take.cons Take.head)))) rfl inferInstance | exact OpP.loadW (Val.of rfl) (Take.cons (Take.cons (Take.cons (Take.app Take.head)))) rfl inferInstance | exact OpP.loadO inferInstance (Val.of rfl) Take.head rfl | exact OpP.loadO inferInstance (Val.of rfl) (Take.cons Take.head) rfl | exact OpP.loadO inferInstance (Val.of rfl) (Take.cons (Take.cons Take.head)) rfl | exact OpP.loadO inferInstance (Val.of rfl) (Take.cons (Take.cons (Take.cons Take.head))) rfl | exact OpP.loadO inferInstance (Val.of rfl) (Take.cons (Take.cons (Take.cons (Take.cons Take.head)))) rfl | exact OpP.loadO inferInstance (Val.of rfl) (Take.app Take.head) rfl | exact OpP.loadO inferInstance (Val.of rfl) (Take.app (Take.cons Take.head)) rfl | exact OpP.loadO inferInstance (Val.of rfl) (Take.cons (Take.app Take.head)) rfl | exact OpP.loadO inferInstance (Val.of rfl) (Take.app (Take.cons (Take.cons Take.head))) rfl | exact OpP.loadO inferInstance (Val.of rfl) (Take.cons (Take.app (Take.cons Take.head))) rfl | exact OpP.loadO inferInstance (Val.of rfl) (Take.cons (Take.cons (Take.app Take.head))) rfl | exact OpP.loadO inferInstance (Val.of rfl) (Take.app (Take.cons (Take.cons (Take.cons Take.head)))) rfl | exact OpP.loadO inferInstance (Val.of rfl) (Take.cons (Take.app (Take.cons (Take.cons Take.head)))) rfl | exact OpP.loadO inferInstance (Val.of rfl) (Take.cons (Take.cons (Take.app (Take.cons Take.head)))) rfl | exact OpP.loadO inferInstance (Val.of rfl) (Take.cons (Take.cons (Take.cons (Take.app Take.head)))) rfl | exact OpP.loadN (Val.of rfl) (fun _ => ReadsAll.ghost (by assumption)) rfl inferInstance)) ?_
          refine RunL.call rfl (by kernel_rfl) rfl Take.nothing (action_CopyI hox1 hsmall) (fun v h3 N3 hle3 hx3 => ?_)
          obtain ⟨hN3, sv3, sm3, sd3, hv3, hox3⟩ := hx3
          subst hN3 hv3
          refine RunL.pure rfl rfl (OpG.plain rfl (OpP.indexSl (i := i0) (Val.of rfl) (Val.of rfl) (fun _ => hi0) inferInstance inferInstance)) ?_
          refine RunL.storeA (o := 0 + i0 * 10) inferInstance rfl rfl (Take.cons (Take.cons Take.head)) rfl rfl (by show 0 + i0 * 10 + 10 ≤ curo.size; omega) ?_
          refine RunL.nil ?_
          refine RunQ.block_normal ?_
          refine RunQ.block_normal ?_
          refine RunQ.then_normal ?_
          refine Run.region' ?_
          refine RunL.pure rfl rfl (OpG.plain rfl (by first | exact OpP.add64 (Val.of rfl) (Val.of rfl) (by omega) (by omega) | exact OpP.bin (Val.of rfl) (Val.of rfl) rfl)) ?_
          refine RunL.pure rfl rfl (OpG.plain rfl (OpP.move (Val.of rfl))) ?_
          refine RunL.nil ?_
          refine RunQ.againT (l.length - (k + 1)) (by omega) ⟨k + 1, ⟨some ⟨bo, 0, none⟩, d.length, co⟩, d.set i0 l[k], by omega, rfl, hle1.trans (hle2.trans hle3), by simp; omega, by rw [hz, hput], ?_, rfl⟩ ⟨rfl, rfl, rfl, rfl, trivial⟩ Take.head
          have := OwnRep.put (e := 41) (b := bo) hlc1 hmx1 hcs1 htk1 (hrp1.mono fun a cs hr => ActR.mono hle3 hr) (a := l[k]) (cs := actC l[k] sv3 sm3 sd3) ⟨sv3, sm3, sd3, rfl, hox3⟩ rfl hi0
          rw [Nat.zero_add]
          exact this
        · have heq : ¬ placeOf d[i0] = placeOf l[k] := by simpa using hc3
          have hput : setPut d l[k] = d.take i0 ++ l[k] :: d.drop i0 := by
            unfold setPut; rw [← hgi]; simp only; rw [if_neg hneg, if_neg]
            · simp
            · rw [Int.toNat_natCast, getElem!_pos d i0 hi0]; exact heq
          refine Run.region' ?_
          refine RunL.pure rfl rfl (OpG.plain rfl (OpP.move (Val.of rfl))) ?_
          refine RunL.pure rfl rfl (OpG.plain rfl (OpP.move (Val.of rfl))) ?_
          refine RunL.pure rfl rfl (OpG.plain rfl (by first | exact OpP.loadW (Val.of rfl) Take.head rfl inferInstance | exact OpP.loadW (Val.of rfl) (Take.cons Take.head) rfl inferInstance | exact OpP.loadW (Val.of rfl) (Take.cons (Take.cons Take.head)) rfl inferInstance | exact OpP.loadW (Val.of rfl) (Take.cons (Take.cons (Take.cons Take.head))) rfl inferInstance | exact OpP.loadW (Val.of rfl) (Take.cons (Take.cons (Take.cons (Take.cons Take.head)))) rfl inferInstance | exact OpP.loadW (Val.of rfl) (Take.app Take.head) rfl inferInstance | exact OpP.loadW (Val.of rfl) (Take.app (Take.cons Take.head)) rfl inferInstance | exact OpP.loadW (Val.of rfl) (Take.cons (Take.app Take.head)) rfl inferInstance | exact OpP.loadW (Val.of rfl) (Take.app (Take.cons (Take.cons Take.head))) rfl inferInstance | exact OpP.loadW (Val.of rfl) (Take.cons (Take.app (Take.cons Take.head))) rfl inferInstance | exact OpP.loadW (Val.of rfl) (Take.cons (Take.cons (Take.app Take.head))) rfl inferInstance | exact OpP.loadW (Val.of rfl) (Take.app (Take.cons (Take.cons (Take.cons Take.head)))) rfl inferInstance | exact OpP.loadW (Val.of rfl) (Take.cons (Take.app (Take.cons (Take.cons Take.head)))) rfl inferInstance | exact OpP.loadW (Val.of rfl) (Take.cons (Take.cons (Take.app (Take.cons Take.head)))) rfl inferInstance | exact OpP.loadW (Val.of rfl) (Take.cons (Take.cons (Take.cons (Take.app Take.head)))) rfl inferInstance | exact OpP.loadO inferInstance (Val.of rfl) Take.head rfl | exact OpP.loadO inferInstance (Val.of rfl) (Take.cons Take.head) rfl | exact OpP.loadO inferInstance (Val.of rfl) (Take.cons (Take.cons Take.head)) rfl | exact OpP.loadO inferInstance (Val.of rfl) (Take.cons (Take.cons (Take.cons Take.head))) rfl | exact OpP.loadO inferInstance (Val.of rfl) (Take.cons (Take.cons (Take.cons (Take.cons Take.head)))) rfl | exact OpP.loadO inferInstance (Val.of rfl) (Take.app Take.head) rfl | exact OpP.loadO inferInstance (Val.of rfl) (Take.app (Take.cons Take.head)) rfl | exact OpP.loadO inferInstance (Val.of rfl) (Take.cons (Take.app Take.head)) rfl | exact OpP.loadO inferInstance (Val.of rfl) (Take.app (Take.cons (Take.cons Take.head))) rfl | exact OpP.loadO inferInstance (Val.of rfl) (Take.cons (Take.app (Take.cons Take.head))) rfl | exact OpP.loadO inferInstance (Val.of rfl) (Take.cons (Take.cons (Take.app Take.head))) rfl | exact OpP.loadO inferInstance (Val.of rfl) (Take.app (Take.cons (Take.cons (Take.cons Take.head)))) rfl | exact OpP.loadO inferInstance (Val.of rfl) (Take.cons (Take.app (Take.cons (Take.cons Take.head)))) rfl | exact OpP.loadO inferInstance (Val.of rfl) (Take.cons (Take.cons (Take.app (Take.cons Take.head)))) rfl | exact OpP.loadO inferInstance (Val.of rfl) (Take.cons (Take.cons (Take.cons (Take.app Take.head)))) rfl | exact OpP.loadN (Val.of rfl) (fun _ => ReadsAll.ghost (by assumption)) rfl inferInstance)) ?_
          refine RunL.call rfl (by kernel_rfl) rfl Take.nothing (action_CopyI hox1 hsmall) (fun v h3 N3 hle3 hx3 => ?_)
          obtain ⟨hN3, sv3, sm3, sd3, hv3, hox3⟩ := hx3
          subst hN3 hv3
          refine RunL.buildSlice inferInstance inferInstance inferInstance rfl rfl rfl rfl rfl rfl fun b4 => ?_
          have hct := acts_Insert (vb := b4) (x := l[k]) (cs := actC l[k] sv3 sm3 sd3) (ho1.mono hle3) ⟨sv3, sm3, sd3, rfl, hox3⟩ hi0 (by omega)
          refine RunL.call rfl (by kernel_rfl) rfl (show Take ([(bo, _)] ++ [(b4, _)]) _ [_, _] from Take.two (Take.cons (Take.cons (Take.cons Take.head))) Take.head) hct (fun v h4 N4 hle4 hx4 => ?_)
          obtain ⟨he4, s4, hv4, _, ho4⟩ := hx4
          subst he4 hv4
          refine RunL.pure rfl rfl (OpG.plain rfl (OpP.assign (Val.of rfl))) ?_
          refine RunL.nil ?_
          refine RunQ.block_normal ?_
          refine RunQ.block_normal ?_
          refine RunQ.then_normal ?_
          refine Run.region' ?_
          refine RunL.pure rfl rfl (OpG.plain rfl (by first | exact OpP.add64 (Val.of rfl) (Val.of rfl) (by omega) (by omega) | exact OpP.bin (Val.of rfl) (Val.of rfl) rfl)) ?_
          refine RunL.pure rfl rfl (OpG.plain rfl (OpP.move (Val.of rfl))) ?_
          refine RunL.nil ?_
          refine RunQ.againT (l.length - (k + 1)) (by omega) ⟨k + 1, s4, d.take i0 ++ l[k] :: d.drop i0, by omega, rfl, hle1.trans (hle2.trans hle3), by simp; omega, by rw [hz, hput], ho4, rfl⟩ ⟨rfl, rfl, rfl, rfl, trivial⟩ Take.here
    · have hge : k = l.length := by simp only [decide_eq_false_iff_not] at hc1; omega
      refine Run.exit ?_
      refine RunQ.then_exit ?_
      refine RunQ.then_exit ?_
      refine RunQ.block_exit ?_
      refine RunQ.then_normal ?_
      refine Run.seq ?_
      refine Run.region' ?_
      refine RunL.pure rfl rfl (OpG.plain rfl (OpP.move (Val.of rfl))) ?_
      refine RunL.pure rfl rfl (OpG.plain rfl (OpP.assign (Val.of rfl))) ?_
      refine RunL.pure rfl rfl (OpG.plain rfl (OpP.assign (Val.of rfl))) ?_
      refine RunL.nil ?_
      refine RunQ.then_normal ?_
      refine Run.ret ?_
      refine RunQ.ret2 rfl rfl rfl ?_
      rw [hge, List.drop_length] at hz
      have hw : setWrite set l = (d, 0) := by rw [setWrite, h0, hz]; rfl
      rw [hw]
      exact ⟨s', rfl, ho⟩
end Go.Proofs.YtcckofgleghbgaaDoor
