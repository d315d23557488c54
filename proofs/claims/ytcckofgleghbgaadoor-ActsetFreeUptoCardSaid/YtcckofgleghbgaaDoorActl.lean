/- Contracts: slices' functions that take a function, at lists of actions; acts.Copy. -/
import Derived.Test.YtcckofgleghbgaaDoorLsto
namespace Go.Proofs.YtcckofgleghbgaaDoor
open Go Sx
abbrev actC (x : ActM) (sv sm sd : Sl) : List Value := [i64v x.typ, u64v x.a, u64v x.b, i64v x.set.cls, i64v x.set.fld, .bool x.set.has, u64v x.set.exp, sv.v, sm.v, sd.v]
theorem Sx.Reads.mono {h h' : GH} {L : Own} {b o : Nat} {v : Value} (hl : GH.le h h') (hr : Reads h L b o v) : Reads h' L b o v := hr.imp (fun h1 => GH.cell_mono hl h1) id
theorem Sx.ReadsAll.mono {h h' : GH} {L : Own} {b o : Nat} {vs : List Value} (hl : GH.le h h') (hr : ReadsAll h L b o vs) : ReadsAll h' L b o vs := fun i v hi => (hr i v hi).mono hl
theorem Sx.Reads.sub {h : GH} {L L' : Own} {b o : Nat} {v : Value} (hl : ∀ p ∈ L, p ∈ L') (hr : Reads h L b o v) : Reads h L' b o v := hr.imp id fun ⟨c, T, fz, hm, hc⟩ => ⟨c, T, fz, hl _ hm, hc⟩
theorem Sx.ReadsAll.sub {h : GH} {L L' : Own} {b o : Nat} {vs : List Value} (hl : ∀ p ∈ L, p ∈ L') (hr : ReadsAll h L b o vs) : ReadsAll h L' b o vs := fun i v hi => (hr i v hi).sub hl
/-- Actions that can be read: of a list that nobody writes, or of one of our own. -/
structure SeenActs (h : GH) (L : Own) (s : Sl) (l : List ActM) : Prop where
  n : s.n = l.length
  small : l.length ≤ 4000000
  get : l ≠ [] → ∃ b o c, s = ⟨some ⟨b, o, none⟩, l.length, c⟩ ∧ l.length ≤ c ∧ ∀ i (hi : i < l.length), ∃ sv sm sd : Sl, IsAct h l[i] sv sm sd ∧ ReadsAll h L b (o + i * 10) (actC l[i] sv sm sd)
theorem SeenActs.mono {h h' : GH} {L : Own} {s : Sl} {l : List ActM} (hl : GH.le h h') (hs : SeenActs h L s l) : SeenActs h' L s l :=
  ⟨hs.n, hs.small, fun hn => let ⟨b, o, c, h1, h2, h3⟩ := hs.get hn; ⟨b, o, c, h1, h2, fun i hi => let ⟨sv, sm, sd, g1, g2⟩ := h3 i hi; ⟨sv, sm, sd, g1.mono hl, g2.mono hl⟩⟩⟩
theorem SeenActs.sub {h : GH} {L L' : Own} {s : Sl} {l : List ActM} (hl : ∀ p ∈ L, p ∈ L') (hs : SeenActs h L s l) : SeenActs h L' s l :=
  ⟨hs.n, hs.small, fun hn => let ⟨b, o, c, h1, h2, h3⟩ := hs.get hn; ⟨b, o, c, h1, h2, fun i hi => let ⟨sv, sm, sd, g1, g2⟩ := h3 i hi; ⟨sv, sm, sd, g1, g2.sub hl⟩⟩⟩
theorem IsActs.seen {h : GH} {L : Own} {s : Sl} {l : List ActM} (hs : IsActs h s l) : SeenActs h L s l :=
  ⟨hs.n, hs.small, fun hn => let ⟨b, o, c, h1, h2, h3⟩ := hs.at hn; ⟨b, o, c, h1, h2, fun i hi => let ⟨sv, sm, sd, g1, g2⟩ := h3 i hi; ⟨sv, sm, sd, g1, ReadsAll.ghost g2⟩⟩⟩
theorem OwnActs.seen {h : GH} {L N : Own} {s : Sl} {l : List ActM} (hs : OwnActs h s l N) (hsm : l.length ≤ 4000000) (hN : ∀ p ∈ N, p ∈ L) : SeenActs h L s l :=
  ⟨OwnRep.n hs (by decide), hsm, fun hn => by
    obtain ⟨b, cur, c, css, h1, h2, h3, _, _, _, _, h4⟩ := OwnRep.at hs (by decide) hn
    refine ⟨b, 0, c, h1, h3, fun i hi => ?_⟩
    obtain ⟨cs, ⟨sv, sm, sd, rfl, g1⟩, _, g2⟩ := h4 i hi
    refine ⟨sv, sm, sd, g1, fun j v hj => .inr ⟨cur, _, _, hN _ (by rw [h2]; exact List.mem_cons_self ..), ?_⟩⟩
    rw [Nat.zero_add]
    exact g2 j v hj⟩
/-- A function that tells p of each of a list; it may read what Lc holds. -/
def ActPred (f : FuncId) (caps : Array Value) (h : GH) (Lc : Own) (l : List ActM) (p : ActM → Bool) : Prop :=
  callable Tryd.prog f = true ∧ ∀ h1, GH.le h h1 → ∀ (i : Nat) (hi : i < l.length) (sv sm sd : Sl), IsAct h1 l[i] sv sm sd → Ctr Tryd.prog f ([actV l[i] sv sm sd].toArray ++ caps) h1 Lc fun r _ N => r = .bool (p l[i]) ∧ N = Lc
set_option maxHeartbeats 1000000 in
set_option maxRecDepth 100000 in
theorem acts_IndexFunc {h : GH} {s : Sl} {l : List ActM} {f : FuncId} {caps : Array Value} {N Lc : Own} {p : ActM → Bool} (hs : SeenActs h (N ++ Lc) s l) (hf : ActPred f caps h Lc l p) : Ctr Tryd.prog 46 [s.v, .func (.func f) #[] caps].toArray h (N ++ Lc) fun r _ N' => r = i64v (findGo p 0 l) ∧ N' = N ++ Lc := by
  have hn := hs.n
  have hsm := hs.small
  refine Ctr.of_run Tryd.func46 rfl rfl rfl fun w0 => ?_
  refine Run.seq ?_
  refine Run.region' ?_
  refine RunL.pure rfl rfl (OpG.plain rfl (OpP.assign (Val.of rfl))) ?_
  refine RunL.nil ?_
  refine RunQ.then_normal ?_
  refine Run.seq ?_
  refine Run.seq ?_
  refine Run.region' ?_
  refine RunL.pure rfl rfl (OpG.plain rfl (OpP.move (Val.of rfl))) ?_
  refine RunL.pure rfl rfl (OpG.plain rfl (OpP.lenSl (Val.of rfl) inferInstance)) ?_
  refine RunL.pure rfl rfl (OpG.plain rfl (OpP.move (Val.of rfl))) ?_
  refine RunL.nil ?_
  refine RunQ.then_normal ?_
  refine Run.block ?_
  refine Run.loopT (fun m E h' L' => ∃ k : Nat, k ≤ l.length ∧ m = l.length - k ∧ GH.le h h' ∧ L' = N ++ Lc ∧ findGo p 0 l = findGo p k (l.drop k) ∧ E = [(0, s.v), (1, .func (.func f) #[] caps), (7, .int .i64 (s.n : Int)), (8, i64v (k : Int))]) l.length ⟨0, Nat.zero_le _, rfl, GH.le.refl h, rfl, rfl, rfl⟩ ⟨rfl, rfl, rfl, rfl, trivial⟩ Take.whole ?_
  rintro m E1 h1 L1 ⟨k, hk, rfl, hle1, rfl, hz, rfl⟩
  refine Run.seq ?_
  refine Run.region' ?_
  refine RunL.pure rfl rfl (OpG.plain rfl (OpP.bin (Val.of rfl) (Val.of rfl) rfl)) ?_
  refine RunL.nil ?_
  refine RunQ.then_normal ?_
  refine Run.seq ?_
  refine Run.cond rfl (fun hc0 => ?_) (fun hc0 => ?_)
  · have hlt : k < l.length := by simp only [decide_eq_true_eq] at hc0; omega
    obtain ⟨b, o, c, rfl, hle, hcell⟩ := (hs.mono hle1).get (by intro e; subst e; simp at hlt)
    obtain ⟨sv, sm, sd, hox, hx⟩ := hcell k hlt
    rw [List.drop_eq_getElem_cons hlt, findGo] at hz
    refine Run.skip ?_
    refine RunQ.then_normal ?_
    refine Run.seq ?_
    refine Run.block ?_
    refine Run.seq ?_
    refine Run.region' ?_
    refine RunL.pure rfl rfl (OpG.plain rfl (OpP.move (Val.of rfl))) ?_
    refine RunL.pure rfl rfl (OpG.plain rfl (OpP.assign (Val.of rfl))) ?_
    refine RunL.nil ?_
    refine RunQ.then_normal ?_
    refine Run.seq ?_
    refine Run.region' ?_
    refine RunL.pure rfl rfl (OpG.plain rfl (OpP.move (Val.of rfl))) ?_
    refine RunL.pure rfl rfl (OpG.plain rfl (OpP.move (Val.of rfl))) ?_
    refine RunL.pure rfl rfl (OpG.plain rfl (OpP.move (Val.of rfl))) ?_
    refine RunL.pure rfl rfl (OpG.plain rfl (by first | exact OpP.indexSl (Val.of rfl) (Val.of rfl) (fun _ => by omega) inferInstance inferInstance | exact OpP.indexI (Val.of rfl) (Val.of rfl) (fun _ => by omega) (fun _ => by omega) inferInstance inferInstance)) ?_
    refine RunL.pure rfl rfl (OpG.plain rfl (OpP.loadN (Val.of rfl) (fun hA => hx) rfl inferInstance)) ?_
    refine RunL.callv rfl hf.1 rfl rfl (show Take Lc (N ++ Lc) N from List.perm_append_comm) (hf.2 h1 hle1 k hlt sv sm sd hox) (fun v h2 N2 hle2 hx2 => ?_)
    obtain ⟨hv, hN⟩ := hx2
    subst hv hN
    refine RunL.perm (List.perm_append_comm (l₁ := N2)) ?_
    refine RunL.nil ?_
    refine RunQ.then_normal ?_
    refine Run.cond rfl (fun hc1 => ?_) (fun hc1 => ?_)
    · rw [show p l[k] = true from hc1, if_pos rfl] at hz
      refine Run.seq ?_
      refine Run.region' ?_
      refine RunL.pure rfl rfl (OpG.plain rfl (OpP.move (Val.of rfl))) ?_
      refine RunL.pure rfl rfl (OpG.plain rfl (OpP.assign (Val.of rfl))) ?_
      refine RunL.nil ?_
      refine RunQ.then_normal ?_
      refine Run.ret ?_
      refine RunQ.block_ret ?_
      refine RunQ.then_ret ?_
      refine RunQ.then_ret ?_
      refine RunQ.block_ret ?_
      refine RunQ.then_ret ?_
      refine RunQ.ret1 rfl rfl ?_
      rw [hz]; exact ⟨rfl, rfl⟩
    · rw [show p l[k] = false from hc1, if_neg (by simp)] at hz
      refine Run.skip ?_
      refine RunQ.block_normal ?_
      refine RunQ.then_normal ?_
      refine Run.region' ?_
      refine RunL.pure rfl rfl (OpG.plain rfl (by first | exact OpP.add64 (Val.of rfl) (Val.of rfl) (by omega) (by omega) | exact OpP.bin (Val.of rfl) (Val.of rfl) rfl)) ?_
      refine RunL.pure rfl rfl (OpG.plain rfl (OpP.move (Val.of rfl))) ?_
      refine RunL.nil ?_
      exact RunQ.againT (l.length - (k + 1)) (by omega) ⟨k + 1, by omega, rfl, hle1.trans hle2, rfl, hz, rfl⟩ ⟨rfl, rfl, rfl, rfl, trivial⟩ Take.whole
  · have hge : k = l.length := by simp only [decide_eq_false_iff_not] at hc0; omega
    refine Run.exit ?_
    refine RunQ.then_exit ?_
    refine RunQ.then_exit ?_
    refine RunQ.block_exit ?_
    refine RunQ.then_normal ?_
    refine Run.seq ?_
    refine Run.region' ?_
    refine RunL.pure rfl rfl (OpG.plain rfl (OpP.assign (Val.of rfl))) ?_
    refine RunL.nil ?_
    refine RunQ.then_normal ?_
    refine Run.ret ?_
    refine RunQ.ret1 rfl rfl ?_
    rw [hge, List.drop_length] at hz; rw [hz]; exact ⟨rfl, rfl⟩
set_option maxRecDepth 100000 in
theorem acts_ContainsFunc {h : GH} {s : Sl} {l : List ActM} {f : FuncId} {caps : Array Value} {Lc : Own} {p : ActM → Bool} (hs : IsActs h s l) (hf : ActPred f caps h Lc l p) : Ctr Tryd.prog 41 [s.v, .func (.func f) #[] caps].toArray h Lc fun r _ N => r = .bool (l.any p) ∧ N = Lc := by
  refine Ctr.of_run Tryd.func41 rfl rfl rfl fun w0 => ?_
  refine Run.seq ?_
  refine Run.region' ?_
  refine RunL.pure rfl rfl (OpG.plain rfl (OpP.assign (Val.of rfl))) ?_
  refine RunL.nil ?_
  refine RunQ.then_normal ?_
  refine Run.seq ?_
  refine Run.region' ?_
  refine RunL.pure rfl rfl (OpG.plain rfl (OpP.move (Val.of rfl))) ?_
  refine RunL.pure rfl rfl (OpG.plain rfl (OpP.move (Val.of rfl))) ?_
  refine RunL.call rfl (by kernel_rfl) rfl Take.whole (acts_IndexFunc (N := []) hs.seen hf) (fun v h2 N2 hle2 hx2 => ?_)
  obtain ⟨hv, hN⟩ := hx2
  subst hv hN
  refine RunL.pure rfl rfl (OpG.plain rfl (OpP.bin (Val.of rfl) (Val.of rfl) rfl)) ?_
  refine RunL.pure rfl rfl (OpG.plain rfl (OpP.assign (Val.of rfl))) ?_
  refine RunL.nil ?_
  refine RunQ.then_normal ?_
  refine Run.ret ?_
  refine RunQ.ret1 rfl rfl ?_
  exact ⟨by rw [findGo_any], by simp⟩
set_option maxHeartbeats 1000000 in
set_option maxRecDepth 100000 in
theorem acts_Copy {h : GH} {s : Sl} {l : List ActM} (hs : IsActs h s l) (hsum : ∀ x ∈ l, ActSmall x) : Ctr Tryd.prog 44 [s.v].toArray h [] fun r h' N => ∃ s' : Sl, r = s'.v ∧ s'.p ≠ none ∧ OwnActs h' s' l N := by
  have hn := hs.n
  have hsm := hs.small
  refine Ctr.of_run Tryd.func44 rfl rfl rfl fun w0 => ?_
  refine Run.seq ?_
  refine Run.region' ?_
  refine RunL.pure rfl rfl (OpG.plain rfl (OpP.assign (Val.of rfl))) ?_
  refine RunL.nil ?_
  refine RunQ.then_normal ?_
  refine Run.seq ?_
  refine Run.region' ?_
  refine RunL.pure rfl rfl (OpG.plain rfl (OpP.move (Val.of rfl))) ?_
  refine RunL.pure rfl rfl (OpG.plain rfl (OpP.lenSl (Val.of rfl) inferInstance)) ?_
  refine RunL.makeSlice inferInstance inferInstance inferInstance inferInstance rfl (m := 0) (c := s.n) rfl rfl rfl rfl (by omega) (by first | omega | (simp; omega)) (by first | omega | (simp; omega)) fun b1 => ?_
  refine RunL.pure rfl rfl (OpG.plain rfl (OpP.assign (Val.of rfl))) ?_
  refine RunL.nil ?_
  refine RunQ.then_normal ?_
  refine Run.seq ?_
  refine Run.seq ?_
  refine Run.region' ?_
  refine RunL.pure rfl rfl (OpG.plain rfl (OpP.move (Val.of rfl))) ?_
  refine RunL.pure rfl rfl (OpG.plain rfl (OpP.lenSl (Val.of rfl) inferInstance)) ?_
  refine RunL.pure rfl rfl (OpG.plain rfl (OpP.move (Val.of rfl))) ?_
  refine RunL.nil ?_
  refine RunQ.then_normal ?_
  refine Run.block ?_
  refine Run.loopT (fun m E h' L' => ∃ (k : Nat) (s' : Sl), k ≤ l.length ∧ m = l.length - k ∧ GH.le h h' ∧ s'.p ≠ none ∧ OwnActs h' s' (l.take k) L' ∧ E = [(9, s.v), (10, .int .i64 (s.n : Int)), (11, i64v (k : Int)), (3, s'.v)]) l.length ⟨0, ⟨some ⟨b1, 0, none⟩, 0, s.n⟩, Nat.zero_le _, rfl, GH.le.refl h, by simp, ⟨[], OwnSl.made (by rfl) (by omega) (by simp [maxLen]; omega), Reps.nil⟩, rfl⟩ ⟨rfl, rfl, rfl, rfl, trivial⟩ Take.whole ?_
  rintro m E1 h1 L1 ⟨k, s1, hk, rfl, hle1, hp1, ho1, rfl⟩
  have hn1 := OwnRep.n ho1 (by decide)
  rw [List.length_take, Nat.min_eq_left hk] at hn1
  refine Run.seq ?_
  refine Run.region' ?_
  refine RunL.pure rfl rfl (OpG.plain rfl (OpP.bin (Val.of rfl) (Val.of rfl) rfl)) ?_
  refine RunL.nil ?_
  refine RunQ.then_normal ?_
  refine Run.seq ?_
  refine Run.cond rfl (fun hc0 => ?_) (fun hc0 => ?_)
  · have hlt : k < l.length := by simp only [decide_eq_true_eq] at hc0; omega
    obtain ⟨b, o, c, rfl, hle, hcell⟩ := (hs.mono hle1).at (by intro e; subst e; simp at hlt)
    obtain ⟨sv, sm, sd, hox, hx⟩ := hcell k hlt
    refine Run.skip ?_
    refine RunQ.then_normal ?_
    refine Run.seq ?_
    refine Run.block ?_
    refine Run.seq ?_
    refine Run.region' ?_
    refine RunL.pure rfl rfl (OpG.plain rfl (by first | exact OpP.indexSl (Val.of rfl) (Val.of rfl) (fun _ => by omega) inferInstance inferInstance | exact OpP.indexI (Val.of rfl) (Val.of rfl) (fun _ => by omega) (fun _ => by omega) inferInstance inferInstance)) ?_
    refine RunL.pure rfl rfl (OpG.plain rfl (OpP.loadN (Val.of rfl) (fun hA => ReadsAll.ghost hx) rfl inferInstance)) ?_
    refine RunL.alloc inferInstance rfl rfl fun b1 => ?_
    apply RunL.store inferInstance rfl rfl
    · first | exact Take.head | exact (Take.cons Take.head) | exact (Take.cons (Take.cons Take.head)) | exact (Take.cons (Take.cons (Take.cons Take.head))) | exact (Take.cons (Take.cons (Take.cons (Take.cons Take.head)))) | exact (Take.app Take.head) | exact (Take.app (Take.cons Take.head)) | exact (Take.cons (Take.app Take.head)) | exact (Take.app (Take.cons (Take.cons Take.head))) | exact (Take.cons (Take.app (Take.cons Take.head))) | exact (Take.cons (Take.cons (Take.app Take.head))) | exact (Take.app (Take.cons (Take.cons (Take.cons Take.head)))) | exact (Take.cons (Take.app (Take.cons (Take.cons Take.head)))) | exact (Take.cons (Take.cons (Take.app (Take.cons Take.head)))) | exact (Take.cons (Take.cons (Take.cons (Take.app Take.head))))
    · rfl
    · rfl
    · rfl
    · rfl
    refine RunL.nil ?_
    refine RunQ.then_normal ?_
    refine Run.region' ?_
    refine RunL.pure rfl rfl (OpG.plain rfl (OpP.move (Val.of rfl))) ?_
    refine RunL.pure rfl rfl (OpG.plain rfl (by first | exact OpP.loadW (Val.of rfl) Take.head rfl inferInstance | exact OpP.loadW (Val.of rfl) (Take.cons Take.head) rfl inferInstance | exact OpP.loadW (Val.of rfl) (Take.cons (Take.cons Take.head)) rfl inferInstance | exact OpP.loadW (Val.of rfl) (Take.cons (Take.cons (Take.cons Take.head))) rfl inferInstance | exact OpP.loadW (Val.of rfl) (Take.cons (Take.cons (Take.cons (Take.cons Take.head)))) rfl inferInstance | exact OpP.loadW (Val.of rfl) (Take.app Take.head) rfl inferInstance | exact OpP.loadW (Val.of rfl) (Take.app (Take.cons Take.head)) rfl inferInstance | exact OpP.loadW (Val.of rfl) (Take.cons (Take.app Take.head)) rfl inferInstance | exact OpP.loadW (Val.of rfl) (Take.app (Take.cons (Take.cons Take.head))) rfl inferInstance | exact OpP.loadW (Val.of rfl) (Take.cons (Take.app (Take.cons Take.head))) rfl inferInstance | exact OpP.loadW (Val.of rfl) (Take.cons (Take.cons (Take.app Take.head))) rfl inferInstance | exact OpP.loadW (Val.of rfl) (Take.app (Take.cons (Take.cons (Take.cons Take.head)))) rfl inferInstance | exact OpP.loadW (Val.of rfl) (Take.cons (Take.app (Take.cons (Take.cons Take.head)))) rfl inferInstance | exact OpP.loadW (Val.of rfl) (Take.cons (Take.cons (Take.app (Take.cons Take.head)))) rfl inferInstance | exact OpP.loadW (Val.of rfl) (Take.cons (Take.cons (Take.cons (Take.app Take.head)))) rfl inferInstance | exact OpP.loadO inferInstance (Val.of rfl) Take.head rfl | exact OpP.loadO inferInstance (Val.of rfl) (Take.cons Take.head) rfl | exact OpP.loadO inferInstance (Val.of rfl) (Take.cons (Take.cons Take.head)) rfl | exact OpP.loadO inferInstance (Val.of rfl) (Take.cons (Take.cons (Take.cons Take.head))) rfl | exact OpP.loadO inferInstance (Val.of rfl) (Take.cons (Take.cons (Take.cons (Take.cons Take.head)))) rfl | exact OpP.loadO inferInstance (Val.of rfl) (Take.app Take.head) rfl | exact OpP.loadO inferInstance (Val.of rfl) (Take.app (Take.cons Take.head)) rfl | exact OpP.loadO inferInstance (Val.of rfl) (Take.cons (Take.app Take.head)) rfl | exact OpP.loadO inferInstance (Val.of rfl) (Take.app (Take.cons (Take.cons Take.head))) rfl | exact OpP.loadO inferInstance (Val.of rfl) (Take.cons (Take.app (Take.cons Take.head))) rfl | exact OpP.loadO inferInstance (Val.of rfl) (Take.cons (Take.cons (Take.app Take.head))) rfl | exact OpP.loadO inferInstance (Val.of rfl) (Take.app (Take.cons (Take.cons (Take.cons Take.head)))) rfl | exact OpP.loadO inferInstance (Val.of rfl) (Take.cons (Take.app (Take.cons (Take.cons Take.head)))) rfl | exact OpP.loadO inferInstance (Val.of rfl) (Take.cons (Take.cons (Take.app (Take.cons Take.head)))) rfl | exact OpP.loadO inferInstance (Val.of rfl) (Take.cons (Take.cons (Take.cons (Take.app Take.head)))) rfl | exact OpP.loadN (Val.of rfl) (fun _ => ReadsAll.ghost (by assumption)) rfl inferInstance)) ?_
    refine RunL.call rfl (by kernel_rfl) rfl Take.nothing (action_CopyI hox (hsum _ (List.getElem_mem hlt))) (fun v h2 N2 hle2 hx2 => ?_)
    obtain ⟨hN2, sv2, sm2, sd2, hv2, hox2⟩ := hx2
    subst hN2 hv2
    have ho2 := ho1.mono hle2
    refine RunL.buildSlice inferInstance inferInstance inferInstance rfl rfl rfl rfl rfl rfl fun b2 => ?_
    obtain ⟨css, hcs, hrp⟩ := ho2
    refine RunL.append inferInstance inferInstance inferInstance inferInstance (s := s1) (r := ⟨some ⟨b2, 0, none⟩, 1, 1⟩) rfl rfl rfl hcs (Take.cons (Take.cons Take.whole)) (SrcAt.built (m := 1) (Take.app Take.head) rfl) (ActR.one ⟨sv2, sm2, sd2, rfl, hox2⟩) (by simp [maxLen]; omega) (by simp; omega) rfl rfl fun s2 N2 hn2 ho2 => ?_
    refine RunL.pure rfl rfl (OpG.plain rfl (OpP.assign (Val.of rfl))) ?_
    refine RunL.nil ?_
    refine RunQ.block_normal ?_
    refine RunQ.then_normal ?_
    refine Run.region' ?_
    refine RunL.pure rfl rfl (OpG.plain rfl (by first | exact OpP.add64 (Val.of rfl) (Val.of rfl) (by omega) (by omega) | exact OpP.bin (Val.of rfl) (Val.of rfl) rfl)) ?_
    refine RunL.pure rfl rfl (OpG.plain rfl (OpP.move (Val.of rfl))) ?_
    refine RunL.nil ?_
    refine RunQ.againT (l.length - (k + 1)) (by omega) ⟨k + 1, s2, by omega, rfl, hle1.trans hle2, ?_, ?_, rfl⟩ ⟨rfl, rfl, rfl, rfl, trivial⟩ Take.here
    · intro e
      have hn2' := OwnSl.max ho2
      rcases ho2 with ⟨rfl, _, _⟩ | ⟨_, _, hp, _⟩
      · simp at hn2
      · rw [hp] at e; cases e
    · rw [List.take_succ_eq_append_getElem hlt]
      exact OwnRep.snoc hrp ⟨sv2, sm2, sd2, rfl, hox2⟩ rfl ho2
  · have hge : k = l.length := by simp only [decide_eq_false_iff_not] at hc0; omega
    refine Run.exit ?_
    refine RunQ.then_exit ?_
    refine RunQ.then_exit ?_
    refine RunQ.block_exit ?_
    refine RunQ.then_normal ?_
    refine Run.seq ?_
    refine Run.region' ?_
    refine RunL.pure rfl rfl (OpG.plain rfl (OpP.move (Val.of rfl))) ?_
    refine RunL.pure rfl rfl (OpG.plain rfl (OpP.assign (Val.of rfl))) ?_
    refine RunL.nil ?_
    refine RunQ.then_normal ?_
    refine Run.ret ?_
    refine RunQ.ret1 rfl rfl ?_
    rw [hge, List.take_length] at ho1
    exact ⟨s1, rfl, hp1, ho1⟩
end Go.Proofs.YtcckofgleghbgaaDoor
