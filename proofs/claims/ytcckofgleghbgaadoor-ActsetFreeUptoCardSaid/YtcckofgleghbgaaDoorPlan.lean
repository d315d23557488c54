/- Contracts: actset.Write and Plan with results that nobody writes; what the references say of lists of actions. -/
import Derived.Test.YtcckofgleghbgaaDoorWri
namespace Go.Proofs.YtcckofgleghbgaaDoor
open Go Sx
theorem setFold_length : ∀ (l d : List ActM), (l.foldl setPut d).length ≤ d.length + l.length
  | [], d => by simp
  | x :: l, d => by
    have h1 := setFold_length l (setPut d x)
    have h2 := setPut_length d x
    simp only [List.foldl_cons, List.length_cons]; omega
theorem setWrite_length (set l : List ActM) : (setWrite set l).1.length ≤ set.length + l.length := by
  unfold setWrite
  split
  · simp
  · exact setFold_length l set
/-- A list of our own is frozen. -/
theorem Ctr.freezeActs {f : FuncId} {args : Array Value} {h : GH} {L : Own} {R : Value → GH → Own → Prop} {R' : Value → GH → Own → Prop}
    (hs : Ctr Tryd.prog f args h L R) (hr : ∀ v h' N, GH.le h h' → R v h' N → ∃ (s : Sl) (l : List ActM) (N' R0 : Own), l.length ≤ 4000000 ∧ OwnActs h' s l N' ∧ Take N' N R0 ∧ ∀ h'', GH.le h' h'' → IsActs h'' s l → R' v h'' R0) : Ctr Tryd.prog f args h L R' :=
  Ctr.freeze hs fun v h' N hle hR => by
    obtain ⟨s, l, N', R0, hl, ⟨css, ho, hrp⟩, ht, hk⟩ := hr v h' N hle hR
    exact ⟨41, 10, s, css.flatten, N', R0, ho, ht, fun h'' hle2 hi => hk h'' hle2 ⟨IsRep.ofReps hi (hrp.mono fun _ _ hr => hr.mono hle2), hl⟩⟩
theorem actset_Write {h : GH} {s s1 : Sl} {set l : List ActM} (hs : IsActs h s set) (hl : IsActs h s1 l) (hsm : ∀ x ∈ set, ActSmall x) (hlm : ∀ x ∈ l, ActSmall x) (hlen : set.length + l.length ≤ 4000000) : Ctr Tryd.prog 16 [s.v, s1.v].toArray h [] fun r h' N => N = [] ∧ ∃ s' : Sl, r = .tuple #[s'.v, i64v (setWrite set l).2] ∧ IsActs h' s' (setWrite set l).1 :=
  Ctr.freezeActs (actset_Write0 hs hl hsm hlm hlen) fun v h' N _ ⟨s', hv, ho⟩ => ⟨s', _, N, [], by have := setWrite_length set l; omega, ho, Take.whole, fun h'' _ hi => ⟨rfl, s', hv, hi⟩⟩
def setPlan (l : List ActM) : List ActM := if !setRight l then [] else if actsHas l 22 then l.filter (fun x => !(x.typ == 0)) else l
theorem actset_Plan1_ok {h : GH} (l : List ActM) : ActPred 54 #[] h [] l (fun x => x.typ == 0) := ⟨by kernel_rfl, fun _ _ _ _ _ _ _ _ => actset_Plan1⟩
set_option maxHeartbeats 1000000 in
set_option maxRecDepth 100000 in
theorem actset_Plan0 {h : GH} {s : Sl} {l : List ActM} (hs : IsActs h s l) (hsm : ∀ x ∈ l, ActSmall x) : Ctr Tryd.prog 19 [s.v].toArray h [] fun r h' N => ∃ s' : Sl, r = s'.v ∧ OwnActs h' s' (setPlan l) N := by
  refine Ctr.of_run Tryd.func19 rfl rfl rfl fun w0 => ?_
  refine Run.seq ?_
  refine Run.region' ?_
  refine RunL.pure rfl rfl (OpG.plain rfl (OpP.assign (Val.of rfl))) ?_
  refine RunL.nil ?_
  refine RunQ.then_normal ?_
  refine Run.seq ?_
  refine Run.seq ?_
  refine Run.region' ?_
  refine RunL.pure rfl rfl (OpG.plain rfl (OpP.move (Val.of rfl))) ?_
  refine RunL.pure rfl rfl (OpG.plain rfl (OpP.call (by kernel_rfl) (.cons (Val.of rfl) .nil) (fun hA => by first | (have hct := actset_Right hs; exact hct) | exact actset_Right hs))) ?_
  refine RunL.pure rfl rfl (OpG.plain rfl (OpP.not (Val.of rfl))) ?_
  refine RunL.nil ?_
  refine RunQ.then_normal ?_
  refine Run.cond rfl (fun hc0 => ?_) (fun hc0 => ?_)
  · have h0 : (!setRight l) = true := hc0
    refine Run.seq ?_
    refine Run.region' ?_
    refine RunL.pure rfl rfl (OpG.plain rfl (OpP.assign (Val.of rfl))) ?_
    refine RunL.nil ?_
    refine RunQ.then_normal ?_
    refine Run.ret ?_
    refine RunQ.then_ret ?_
    refine RunQ.ret1 rfl rfl ?_
    have : setPlan l = [] := by simp [setPlan, h0]
    rw [this]; exact ⟨Sl.none, rfl, OwnRep.nil⟩
  · have h0 : (!setRight l) = false := hc0
    refine Run.skip ?_
    refine RunQ.then_normal ?_
    refine Run.seq ?_
    refine Run.region' ?_
    refine RunL.pure rfl rfl (OpG.plain rfl (OpP.move (Val.of rfl))) ?_
    refine RunL.call rfl (by kernel_rfl) rfl Take.nothing (acts_Copy hs hsm) (fun v h2 N2 hle2 hx2 => ?_)
    obtain ⟨s2, hv2, hp2, ho2⟩ := hx2
    subst hv2
    rw [List.append_nil]
    refine RunL.pure rfl rfl (OpG.plain rfl (OpP.assign (Val.of rfl))) ?_
    refine RunL.nil ?_
    refine RunQ.then_normal ?_
    refine Run.seq ?_
    refine Run.seq ?_
    refine Run.region' ?_
    refine RunL.pure rfl rfl (OpG.plain rfl (OpP.move (Val.of rfl))) ?_
    refine RunL.pure rfl rfl (OpG.plain rfl (OpP.call (by kernel_rfl) (.cons (Val.of rfl) (.cons (Val.of rfl) .nil)) (fun hA => by first | (have hct := actset_has (hs.mono hle2); exact hct) | exact actset_has (hs.mono hle2)))) ?_
    refine RunL.nil ?_
    refine RunQ.then_normal ?_
    refine Run.cond rfl (fun hc1 => ?_) (fun hc1 => ?_)
    · have h1 : actsHas l 22 = true := hc1
      have hne : l ≠ [] := by intro e; subst e; simp [actsHas] at h1
      have hsl := hs.small
      obtain ⟨b, cur, c, css, hs3, hN3, _⟩ := OwnRep.at ho2 (by decide) hne
      subst hs3
      refine Run.region' ?_
      refine RunL.pure rfl rfl (OpG.plain rfl (OpP.move (Val.of rfl))) ?_
      have hct := acts_DeleteFunc rfl ho2 hsl hne (actset_Plan1_ok (h := h2) l)
      refine RunL.call rfl (by kernel_rfl) rfl Take.whole hct (fun v h3 N3 hle3 hx3 => ?_)
      obtain ⟨s4, hv4, ho4⟩ := hx3
      subst hv4
      rw [List.append_nil]
      refine RunL.pure rfl rfl (OpG.plain rfl (OpP.assign (Val.of rfl))) ?_
      refine RunL.nil ?_
      refine RunQ.then_normal ?_
      refine Run.seq ?_
      refine Run.region' ?_
      refine RunL.pure rfl rfl (OpG.plain rfl (OpP.move (Val.of rfl))) ?_
      refine RunL.pure rfl rfl (OpG.plain rfl (OpP.assign (Val.of rfl))) ?_
      refine RunL.nil ?_
      refine RunQ.then_normal ?_
      refine Run.ret ?_
      refine RunQ.ret1 rfl rfl ?_
      have : setPlan l = l.filter (fun x => !(x.typ == 0)) := by unfold setPlan; rw [h0, h1]; rfl
      rw [this]; exact ⟨s4, rfl, ho4⟩
    · have h1 : actsHas l 22 = false := hc1
      refine Run.skip ?_
      refine RunQ.then_normal ?_
      refine Run.seq ?_
      refine Run.region' ?_
      refine RunL.pure rfl rfl (OpG.plain rfl (OpP.move (Val.of rfl))) ?_
      refine RunL.pure rfl rfl (OpG.plain rfl (OpP.assign (Val.of rfl))) ?_
      refine RunL.nil ?_
      refine RunQ.then_normal ?_
      refine Run.ret ?_
      refine RunQ.ret1 rfl rfl ?_
      have : setPlan l = l := by unfold setPlan; rw [h0, h1]; rfl
      rw [this]; exact ⟨s2, rfl, ho2⟩
theorem setPlan_length (l : List ActM) : (setPlan l).length ≤ l.length := by
  unfold setPlan
  split
  · simp
  · split
    · exact List.length_filter_le _ _
    · exact Nat.le_refl _
theorem actset_Plan {h : GH} {s : Sl} {l : List ActM} (hs : IsActs h s l) (hsm : ∀ x ∈ l, ActSmall x) : Ctr Tryd.prog 19 [s.v].toArray h [] fun r h' N => N = [] ∧ ∃ s' : Sl, r = s'.v ∧ IsActs h' s' (setPlan l) :=
  Ctr.freezeActs (actset_Plan0 hs hsm) fun v h' N _ ⟨s', hv, ho⟩ => ⟨s', _, N, [], by have := setPlan_length l; have := hs.small; omega, ho, Take.whole, fun h'' _ hi => ⟨rfl, s', hv, hi⟩⟩
def actFew (x : ActM) : Bool := oxmFew x.set && decide ((x.data.length : Int) ≤ 500)
set_option maxRecDepth 100000 in
theorem ref12_Few {h : GH} {x : ActM} {sv sm sd : Sl} (hx : IsAct h x sv sm sd) : Ctr Tryd.prog 39 [actV x sv sm sd].toArray h [] fun r _ _ => r = .bool (actFew x) := by
  have hn := hx.data.n
  refine Ctr.of_run Tryd.func39 rfl rfl rfl fun w0 => ?_
  refine Run.seq ?_
  refine Run.region' ?_
  refine RunL.boxA rfl rfl fun b1 => ?_
  refine RunL.pure rfl rfl (OpG.plain rfl (OpP.assign (Val.of rfl))) ?_
  refine RunL.nil ?_
  refine RunQ.then_normal ?_
  refine Run.seq ?_
  refine Run.region' ?_
  refine RunL.pure rfl rfl (OpG.plain rfl (OpP.fieldAddr (Val.of rfl) inferInstance)) ?_
  refine RunL.pure rfl rfl (OpG.plain rfl (by first | exact OpP.loadW (Val.of rfl) Take.head rfl inferInstance | exact OpP.loadW (Val.of rfl) (Take.cons Take.head) rfl inferInstance | exact OpP.loadW (Val.of rfl) (Take.cons (Take.cons Take.head)) rfl inferInstance | exact OpP.loadW (Val.of rfl) (Take.cons (Take.cons (Take.cons Take.head))) rfl inferInstance | exact OpP.loadW (Val.of rfl) (Take.cons (Take.cons (Take.cons (Take.cons Take.head)))) rfl inferInstance | exact OpP.loadW (Val.of rfl) (Take.app Take.head) rfl inferInstance | exact OpP.loadW (Val.of rfl) (Take.app (Take.cons Take.head)) rfl inferInstance | exact OpP.loadW (Val.of rfl) (Take.cons (Take.app Take.head)) rfl inferInstance | exact OpP.loadW (Val.of rfl) (Take.app (Take.cons (Take.cons Take.head))) rfl inferInstance | exact OpP.loadW (Val.of rfl) (Take.cons (Take.app (Take.cons Take.head))) rfl inferInstance | exact OpP.loadW (Val.of rfl) (Take.cons (Take.cons (Take.app Take.head))) rfl inferInstance | exact OpP.loadW (Val.of rfl) (Take.app (Take.cons (Take.cons (Take.cons Take.head)))) rfl inferInstance | exact OpP.loadW (Val.of rfl) (Take.cons (Take.app (Take.cons (Take.cons Take.head)))) rfl inferInstance | exact OpP.loadW (Val.of rfl) (Take.cons (Take.cons (Take.app (Take.cons Take.head)))) rfl inferInstance | exact OpP.loadW (Val.of rfl) (Take.cons (Take.cons (Take.cons (Take.app Take.head)))) rfl inferInstance | exact OpP.loadO inferInstance (Val.of rfl) Take.head rfl | exact OpP.loadO inferInstance (Val.of rfl) (Take.cons Take.head) rfl | exact OpP.loadO inferInstance (Val.of rfl) (Take.cons (Take.cons Take.head)) rfl | exact OpP.loadO inferInstance (Val.of rfl) (Take.cons (Take.cons (Take.cons Take.head))) rfl | exact OpP.loadO inferInstance (Val.of rfl) (Take.cons (Take.cons (Take.cons (Take.cons Take.head)))) rfl | exact OpP.loadO inferInstance (Val.of rfl) (Take.app Take.head) rfl | exact OpP.loadO inferInstance (Val.of rfl) (Take.app (Take.cons Take.head)) rfl | exact OpP.loadO inferInstance (Val.of rfl) (Take.cons (Take.app Take.head)) rfl | exact OpP.loadO inferInstance (Val.of rfl) (Take.app (Take.cons (Take.cons Take.head))) rfl | exact OpP.loadO inferInstance (Val.of rfl) (Take.cons (Take.app (Take.cons Take.head))) rfl | exact OpP.loadO inferInstance (Val.of rfl) (Take.cons (Take.cons (Take.app Take.head))) rfl | exact OpP.loadO inferInstance (Val.of rfl) (Take.app (Take.cons (Take.cons (Take.cons Take.head)))) rfl | exact OpP.loadO inferInstance (Val.of rfl) (Take.cons (Take.app (Take.cons (Take.cons Take.head)))) rfl | exact OpP.loadO inferInstance (Val.of rfl) (Take.cons (Take.cons (Take.app (Take.cons Take.head)))) rfl | exact OpP.loadO inferInstance (Val.of rfl) (Take.cons (Take.cons (Take.cons (Take.app Take.head)))) rfl | exact OpP.loadN (Val.of rfl) (fun _ => ReadsAll.ghost (by assumption)) rfl inferInstance)) ?_
  refine RunL.pure rfl rfl (OpG.plain rfl (OpP.call (by kernel_rfl) (.cons (Val.of rfl) .nil) (fun hA => by first | (have hct := ref08_Few hx.set; exact hct) | exact ref08_Few hx.set))) ?_
  refine RunL.pure rfl rfl (OpG.plain rfl (OpP.move (Val.of rfl))) ?_
  refine RunL.pure rfl rfl (OpG.onT rfl rfl rfl (OpP.fieldAddr (Val.of rfl) inferInstance)) ?_
  refine RunL.pure rfl rfl (OpG.onT rfl rfl rfl (by first | exact OpP.load1 (Val.lz rfl) (fun _ => .own Take.head rfl) inferInstance | exact OpP.load1 (Val.lz rfl) (fun _ => .own (Take.cons Take.head) rfl) inferInstance | exact OpP.load1 (Val.lz rfl) (fun _ => .own (Take.cons (Take.cons Take.head)) rfl) inferInstance | exact OpP.load1 (Val.lz rfl) (fun _ => .own (Take.cons (Take.cons (Take.cons Take.head))) rfl) inferInstance | exact OpP.load1 (Val.lz rfl) (fun _ => .own (Take.cons (Take.cons (Take.cons (Take.cons Take.head)))) rfl) inferInstance | exact OpP.load1 (Val.lz rfl) (fun _ => .own (Take.app Take.head) rfl) inferInstance | exact OpP.load1 (Val.lz rfl) (fun _ => .own (Take.app (Take.cons Take.head)) rfl) inferInstance | exact OpP.load1 (Val.lz rfl) (fun _ => .own (Take.cons (Take.app Take.head)) rfl) inferInstance | exact OpP.load1 (Val.lz rfl) (fun _ => .own (Take.app (Take.cons (Take.cons Take.head))) rfl) inferInstance | exact OpP.load1 (Val.lz rfl) (fun _ => .own (Take.cons (Take.app (Take.cons Take.head))) rfl) inferInstance | exact OpP.load1 (Val.lz rfl) (fun _ => .own (Take.cons (Take.cons (Take.app Take.head))) rfl) inferInstance | exact OpP.load1 (Val.lz rfl) (fun _ => .own (Take.app (Take.cons (Take.cons (Take.cons Take.head)))) rfl) inferInstance | exact OpP.load1 (Val.lz rfl) (fun _ => .own (Take.cons (Take.app (Take.cons (Take.cons Take.head)))) rfl) inferInstance | exact OpP.load1 (Val.lz rfl) (fun _ => .own (Take.cons (Take.cons (Take.app (Take.cons Take.head)))) rfl) inferInstance | exact OpP.load1 (Val.lz rfl) (fun _ => .own (Take.cons (Take.cons (Take.cons (Take.app Take.head)))) rfl) inferInstance | exact OpP.load1 (Val.lz rfl) (fun _ => .inl (by assumption)) inferInstance)) ?_
  refine RunL.pure rfl rfl (OpG.onT rfl rfl rfl (OpP.lenSl (Val.lz rfl) inferInstance)) ?_
  refine RunL.pure rfl rfl (OpG.onT rfl rfl rfl (OpP.bin (Val.lz rfl) (Val.of rfl) rfl)) ?_
  refine RunL.pure rfl rfl (OpG.plain rfl (OpP.pick_and rfl rfl rfl)) ?_
  refine RunL.pure rfl rfl (OpG.plain rfl (OpP.assign (Val.of rfl))) ?_
  refine RunL.nil ?_
  refine RunQ.then_normal ?_
  refine Run.ret ?_
  refine RunQ.ret1 rfl rfl ?_
  rw [actFew, ← hn]
def actSame (x y : ActM) : Bool := x.typ == y.typ && x.a == y.a && x.b == y.b && oxmSame x.set y.set && x.data == y.data
set_option maxHeartbeats 1000000 in
set_option maxRecDepth 100000 in
theorem ref12_Same {h : GH} {x y : ActM} {sv sm sd sv1 sm1 sd1 : Sl} (hx : IsAct h x sv sm sd) (hy : IsAct h y sv1 sm1 sd1) : Ctr Tryd.prog 51 [actV x sv sm sd, actV y sv1 sm1 sd1].toArray h [] fun r _ _ => r = .bool (actSame x y) := by
  refine Ctr.of_run Tryd.func51 rfl rfl rfl fun w0 => ?_
  refine Run.seq ?_
  refine Run.region' ?_
  refine RunL.boxA rfl rfl fun b1 => ?_
  refine RunL.boxA rfl rfl fun b2 => ?_
  refine RunL.pure rfl rfl (OpG.plain rfl (OpP.assign (Val.of rfl))) ?_
  refine RunL.nil ?_
  refine RunQ.then_normal ?_
  refine Run.seq ?_
  refine Run.region' ?_
  refine RunL.pure rfl rfl (OpG.plain rfl (OpP.fieldAddr (Val.of rfl) inferInstance)) ?_
  refine RunL.pure rfl rfl (OpG.plain rfl (by first | exact OpP.load1 (Val.of rfl) (fun _ => .own Take.head rfl) inferInstance | exact OpP.load1 (Val.of rfl) (fun _ => .own (Take.cons Take.head) rfl) inferInstance | exact OpP.load1 (Val.of rfl) (fun _ => .own (Take.cons (Take.cons Take.head)) rfl) inferInstance | exact OpP.load1 (Val.of rfl) (fun _ => .own (Take.cons (Take.cons (Take.cons Take.head))) rfl) inferInstance | exact OpP.load1 (Val.of rfl) (fun _ => .own (Take.cons (Take.cons (Take.cons (Take.cons Take.head)))) rfl) inferInstance | exact OpP.load1 (Val.of rfl) (fun _ => .own (Take.app Take.head) rfl) inferInstance | exact OpP.load1 (Val.of rfl) (fun _ => .own (Take.app (Take.cons Take.head)) rfl) inferInstance | exact OpP.load1 (Val.of rfl) (fun _ => .own (Take.cons (Take.app Take.head)) rfl) inferInstance | exact OpP.load1 (Val.of rfl) (fun _ => .own (Take.app (Take.cons (Take.cons Take.head))) rfl) inferInstance | exact OpP.load1 (Val.of rfl) (fun _ => .own (Take.cons (Take.app (Take.cons Take.head))) rfl) inferInstance | exact OpP.load1 (Val.of rfl) (fun _ => .own (Take.cons (Take.cons (Take.app Take.head))) rfl) inferInstance | exact OpP.load1 (Val.of rfl) (fun _ => .own (Take.app (Take.cons (Take.cons (Take.cons Take.head)))) rfl) inferInstance | exact OpP.load1 (Val.of rfl) (fun _ => .own (Take.cons (Take.app (Take.cons (Take.cons Take.head)))) rfl) inferInstance | exact OpP.load1 (Val.of rfl) (fun _ => .own (Take.cons (Take.cons (Take.app (Take.cons Take.head)))) rfl) inferInstance | exact OpP.load1 (Val.of rfl) (fun _ => .own (Take.cons (Take.cons (Take.cons (Take.app Take.head)))) rfl) inferInstance | exact OpP.load1 (Val.of rfl) (fun _ => .inl (by assumption)) inferInstance)) ?_
  refine RunL.pure rfl rfl (OpG.plain rfl (OpP.fieldAddr (Val.of rfl) inferInstance)) ?_
  refine RunL.pure rfl rfl (OpG.plain rfl (by first | exact OpP.load1 (Val.of rfl) (fun _ => .own Take.head rfl) inferInstance | exact OpP.load1 (Val.of rfl) (fun _ => .own (Take.cons Take.head) rfl) inferInstance | exact OpP.load1 (Val.of rfl) (fun _ => .own (Take.cons (Take.cons Take.head)) rfl) inferInstance | exact OpP.load1 (Val.of rfl) (fun _ => .own (Take.cons (Take.cons (Take.cons Take.head))) rfl) inferInstance | exact OpP.load1 (Val.of rfl) (fun _ => .own (Take.cons (Take.cons (Take.cons (Take.cons Take.head)))) rfl) inferInstance | exact OpP.load1 (Val.of rfl) (fun _ => .own (Take.app Take.head) rfl) inferInstance | exact OpP.load1 (Val.of rfl) (fun _ => .own (Take.app (Take.cons Take.head)) rfl) inferInstance | exact OpP.load1 (Val.of rfl) (fun _ => .own (Take.cons (Take.app Take.head)) rfl) inferInstance | exact OpP.load1 (Val.of rfl) (fun _ => .own (Take.app (Take.cons (Take.cons Take.head))) rfl) inferInstance | exact OpP.load1 (Val.of rfl) (fun _ => .own (Take.cons (Take.app (Take.cons Take.head))) rfl) inferInstance | exact OpP.load1 (Val.of rfl) (fun _ => .own (Take.cons (Take.cons (Take.app Take.head))) rfl) inferInstance | exact OpP.load1 (Val.of rfl) (fun _ => .own (Take.app (Take.cons (Take.cons (Take.cons Take.head)))) rfl) inferInstance | exact OpP.load1 (Val.of rfl) (fun _ => .own (Take.cons (Take.app (Take.cons (Take.cons Take.head)))) rfl) inferInstance | exact OpP.load1 (Val.of rfl) (fun _ => .own (Take.cons (Take.cons (Take.app (Take.cons Take.head)))) rfl) inferInstance | exact OpP.load1 (Val.of rfl) (fun _ => .own (Take.cons (Take.cons (Take.cons (Take.app Take.head)))) rfl) inferInstance | exact OpP.load1 (Val.of rfl) (fun _ => .inl (by assumption)) inferInstance)) ?_
  refine RunL.pure rfl rfl (OpG.plain rfl (OpP.bin (Val.of rfl) (Val.of rfl) rfl)) ?_
  refine RunL.pure rfl rfl (OpG.plain rfl (OpP.move (Val.of rfl))) ?_
  refine RunL.pure rfl rfl (OpG.onT rfl rfl rfl (OpP.fieldAddr (Val.of rfl) inferInstance)) ?_
  refine RunL.pure rfl rfl (OpG.onT rfl rfl rfl (by first | exact OpP.load1 (Val.lz rfl) (fun _ => .own Take.head rfl) inferInstance | exact OpP.load1 (Val.lz rfl) (fun _ => .own (Take.cons Take.head) rfl) inferInstance | exact OpP.load1 (Val.lz rfl) (fun _ => .own (Take.cons (Take.cons Take.head)) rfl) inferInstance | exact OpP.load1 (Val.lz rfl) (fun _ => .own (Take.cons (Take.cons (Take.cons Take.head))) rfl) inferInstance | exact OpP.load1 (Val.lz rfl) (fun _ => .own (Take.cons (Take.cons (Take.cons (Take.cons Take.head)))) rfl) inferInstance | exact OpP.load1 (Val.lz rfl) (fun _ => .own (Take.app Take.head) rfl) inferInstance | exact OpP.load1 (Val.lz rfl) (fun _ => .own (Take.app (Take.cons Take.head)) rfl) inferInstance | exact OpP.load1 (Val.lz rfl) (fun _ => .own (Take.cons (Take.app Take.head)) rfl) inferInstance | exact OpP.load1 (Val.lz rfl) (fun _ => .own (Take.app (Take.cons (Take.cons Take.head))) rfl) inferInstance | exact OpP.load1 (Val.lz rfl) (fun _ => .own (Take.cons (Take.app (Take.cons Take.head))) rfl) inferInstance | exact OpP.load1 (Val.lz rfl) (fun _ => .own (Take.cons (Take.cons (Take.app Take.head))) rfl) inferInstance | exact OpP.load1 (Val.lz rfl) (fun _ => .own (Take.app (Take.cons (Take.cons (Take.cons Take.head)))) rfl) inferInstance | exact OpP.load1 (Val.lz rfl) (fun _ => .own (Take.cons (Take.app (Take.cons (Take.cons Take.head)))) rfl) inferInstance | exact OpP.load1 (Val.lz rfl) (fun _ => .own (Take.cons (Take.cons (Take.app (Take.cons Take.head)))) rfl) inferInstance | exact OpP.load1 (Val.lz rfl) (fun _ => .own (Take.cons (Take.cons (Take.cons (Take.app Take.head)))) rfl) inferInstance | exact OpP.load1 (Val.lz rfl) (fun _ => .inl (by assumption)) inferInstance)) ?_
  refine RunL.pure rfl rfl (OpG.onT rfl rfl rfl (OpP.fieldAddr (Val.of rfl) inferInstance)) ?_
  refine RunL.pure rfl rfl (OpG.onT rfl rfl rfl (by first | exact OpP.load1 (Val.lz rfl) (fun _ => .own Take.head rfl) inferInstance | exact OpP.load1 (Val.lz rfl) (fun _ => .own (Take.cons Take.head) rfl) inferInstance | exact OpP.load1 (Val.lz rfl) (fun _ => .own (Take.cons (Take.cons Take.head)) rfl) inferInstance | exact OpP.load1 (Val.lz rfl) (fun _ => .own (Take.cons (Take.cons (Take.cons Take.head))) rfl) inferInstance | exact OpP.load1 (Val.lz rfl) (fun _ => .own (Take.cons (Take.cons (Take.cons (Take.cons Take.head)))) rfl) inferInstance | exact OpP.load1 (Val.lz rfl) (fun _ => .own (Take.app Take.head) rfl) inferInstance | exact OpP.load1 (Val.lz rfl) (fun _ => .own (Take.app (Take.cons Take.head)) rfl) inferInstance | exact OpP.load1 (Val.lz rfl) (fun _ => .own (Take.cons (Take.app Take.head)) rfl) inferInstance | exact OpP.load1 (Val.lz rfl) (fun _ => .own (Take.app (Take.cons (Take.cons Take.head))) rfl) inferInstance | exact OpP.load1 (Val.lz rfl) (fun _ => .own (Take.cons (Take.app (Take.cons Take.head))) rfl) inferInstance | exact OpP.load1 (Val.lz rfl) (fun _ => .own (Take.cons (Take.cons (Take.app Take.head))) rfl) inferInstance | exact OpP.load1 (Val.lz rfl) (fun _ => .own (Take.app (Take.cons (Take.cons (Take.cons Take.head)))) rfl) inferInstance | exact OpP.load1 (Val.lz rfl) (fun _ => .own (Take.cons (Take.app (Take.cons (Take.cons Take.head)))) rfl) inferInstance | exact OpP.load1 (Val.lz rfl) (fun _ => .own (Take.cons (Take.cons (Take.app (Take.cons Take.head)))) rfl) inferInstance | exact OpP.load1 (Val.lz rfl) (fun _ => .own (Take.cons (Take.cons (Take.cons (Take.app Take.head)))) rfl) inferInstance | exact OpP.load1 (Val.lz rfl) (fun _ => .inl (by assumption)) inferInstance)) ?_
  refine RunL.pure rfl rfl (OpG.onT rfl rfl rfl (by first | exact OpP.eql_u64 (Val.lz rfl) (Val.lz rfl) | exact OpP.bin (Val.lz rfl) (Val.lz rfl) rfl)) ?_
  refine RunL.pure rfl rfl (OpG.plain rfl (OpP.pick_and rfl rfl rfl)) ?_
  refine RunL.pure rfl rfl (OpG.plain rfl (OpP.move (Val.of rfl))) ?_
  refine RunL.pure rfl rfl (OpG.onT rfl rfl rfl (OpP.fieldAddr (Val.of rfl) inferInstance)) ?_
  refine RunL.pure rfl rfl (OpG.onT rfl rfl rfl (by first | exact OpP.load1 (Val.lz rfl) (fun _ => .own Take.head rfl) inferInstance | exact OpP.load1 (Val.lz rfl) (fun _ => .own (Take.cons Take.head) rfl) inferInstance | exact OpP.load1 (Val.lz rfl) (fun _ => .own (Take.cons (Take.cons Take.head)) rfl) inferInstance | exact OpP.load1 (Val.lz rfl) (fun _ => .own (Take.cons (Take.cons (Take.cons Take.head))) rfl) inferInstance | exact OpP.load1 (Val.lz rfl) (fun _ => .own (Take.cons (Take.cons (Take.cons (Take.cons Take.head)))) rfl) inferInstance | exact OpP.load1 (Val.lz rfl) (fun _ => .own (Take.app Take.head) rfl) inferInstance | exact OpP.load1 (Val.lz rfl) (fun _ => .own (Take.app (Take.cons Take.head)) rfl) inferInstance | exact OpP.load1 (Val.lz rfl) (fun _ => .own (Take.cons (Take.app Take.head)) rfl) inferInstance | exact OpP.load1 (Val.lz rfl) (fun _ => .own (Take.app (Take.cons (Take.cons Take.head))) rfl) inferInstance | exact OpP.load1 (Val.lz rfl) (fun _ => .own (Take.cons (Take.app (Take.cons Take.head))) rfl) inferInstance | exact OpP.load1 (Val.lz rfl) (fun _ => .own (Take.cons (Take.cons (Take.app Take.head))) rfl) inferInstance | exact OpP.load1 (Val.lz rfl) (fun _ => .own (Take.app (Take.cons (Take.cons (Take.cons Take.head)))) rfl) inferInstance | exact OpP.load1 (Val.lz rfl) (fun _ => .own (Take.cons (Take.app (Take.cons (Take.cons Take.head)))) rfl) inferInstance | exact OpP.load1 (Val.lz rfl) (fun _ => .own (Take.cons (Take.cons (Take.app (Take.cons Take.head)))) rfl) inferInstance | exact OpP.load1 (Val.lz rfl) (fun _ => .own (Take.cons (Take.cons (Take.cons (Take.app Take.head)))) rfl) inferInstance | exact OpP.load1 (Val.lz rfl) (fun _ => .inl (by assumption)) inferInstance)) ?_
  refine RunL.pure rfl rfl (OpG.onT rfl rfl rfl (OpP.fieldAddr (Val.of rfl) inferInstance)) ?_
  refine RunL.pure rfl rfl (OpG.onT rfl rfl rfl (by first | exact OpP.load1 (Val.lz rfl) (fun _ => .own Take.head rfl) inferInstance | exact OpP.load1 (Val.lz rfl) (fun _ => .own (Take.cons Take.head) rfl) inferInstance | exact OpP.load1 (Val.lz rfl) (fun _ => .own (Take.cons (Take.cons Take.head)) rfl) inferInstance | exact OpP.load1 (Val.lz rfl) (fun _ => .own (Take.cons (Take.cons (Take.cons Take.head))) rfl) inferInstance | exact OpP.load1 (Val.lz rfl) (fun _ => .own (Take.cons (Take.cons (Take.cons (Take.cons Take.head)))) rfl) inferInstance | exact OpP.load1 (Val.lz rfl) (fun _ => .own (Take.app Take.head) rfl) inferInstance | exact OpP.load1 (Val.lz rfl) (fun _ => .own (Take.app (Take.cons Take.head)) rfl) inferInstance | exact OpP.load1 (Val.lz rfl) (fun _ => .own (Take.cons (Take.app Take.head)) rfl) inferInstance | exact OpP.load1 (Val.lz rfl) (fun _ => .own (Take.app (Take.cons (Take.cons Take.head))) rfl) inferInstance | exact OpP.load1 (Val.lz rfl) (fun _ => .own (Take.cons (Take.app (Take.cons Take.head))) rfl) inferInstance | exact OpP.load1 (Val.lz rfl) (fun _ => .own (Take.cons (Take.cons (Take.app Take.head))) rfl) inferInstance | exact OpP.load1 (Val.lz rfl) (fun _ => .own (Take.app (Take.cons (Take.cons (Take.cons Take.head)))) rfl) inferInstance | exact OpP.load1 (Val.lz rfl) (fun _ => .own (Take.cons (Take.app (Take.cons (Take.cons Take.head)))) rfl) inferInstance | exact OpP.load1 (Val.lz rfl) (fun _ => .own (Take.cons (Take.cons (Take.app (Take.cons Take.head)))) rfl) inferInstance | exact OpP.load1 (Val.lz rfl) (fun _ => .own (Take.cons (Take.cons (Take.cons (Take.app Take.head)))) rfl) inferInstance | exact OpP.load1 (Val.lz rfl) (fun _ => .inl (by assumption)) inferInstance)) ?_
  refine RunL.pure rfl rfl (OpG.onT rfl rfl rfl (by first | exact OpP.eql_u64 (Val.lz rfl) (Val.lz rfl) | exact OpP.bin (Val.lz rfl) (Val.lz rfl) rfl)) ?_
  refine RunL.pure rfl rfl (OpG.plain rfl (OpP.pick_and rfl rfl rfl)) ?_
  refine RunL.pure rfl rfl (OpG.plain rfl (OpP.move (Val.of rfl))) ?_
  refine RunL.pure rfl rfl (OpG.onT rfl rfl rfl (OpP.fieldAddr (Val.of rfl) inferInstance)) ?_
  refine RunL.pure rfl rfl (OpG.onT rfl rfl rfl (by first | exact OpP.loadW (Val.lz rfl) Take.head rfl inferInstance | exact OpP.loadW (Val.lz rfl) (Take.cons Take.head) rfl inferInstance | exact OpP.loadW (Val.lz rfl) (Take.cons (Take.cons Take.head)) rfl inferInstance | exact OpP.loadW (Val.lz rfl) (Take.cons (Take.cons (Take.cons Take.head))) rfl inferInstance | exact OpP.loadW (Val.lz rfl) (Take.cons (Take.cons (Take.cons (Take.cons Take.head)))) rfl inferInstance | exact OpP.loadW (Val.lz rfl) (Take.app Take.head) rfl inferInstance | exact OpP.loadW (Val.lz rfl) (Take.app (Take.cons Take.head)) rfl inferInstance | exact OpP.loadW (Val.lz rfl) (Take.cons (Take.app Take.head)) rfl inferInstance | exact OpP.loadW (Val.lz rfl) (Take.app (Take.cons (Take.cons Take.head))) rfl inferInstance | exact OpP.loadW (Val.lz rfl) (Take.cons (Take.app (Take.cons Take.head))) rfl inferInstance | exact OpP.loadW (Val.lz rfl) (Take.cons (Take.cons (Take.app Take.head))) rfl inferInstance | exact OpP.loadW (Val.lz rfl) (Take.app (Take.cons (Take.cons (Take.cons Take.head)))) rfl inferInstance | exact OpP.loadW (Val.lz rfl) (Take.cons (Take.app (Take.cons (Take.cons Take.head)))) rfl inferInstance | exact OpP.loadW (Val.lz rfl) (Take.cons (Take.cons (Take.app (Take.cons Take.head)))) rfl inferInstance | exact OpP.loadW (Val.lz rfl) (Take.cons (Take.cons (Take.cons (Take.app Take.head)))) rfl inferInstance | exact OpP.loadO inferInstance (Val.lz rfl) Take.head rfl | exact OpP.loadO inferInstance (Val.lz rfl) (Take.cons Take.head) rfl | exact OpP.loadO inferInstance (Val.lz rfl) (Take.cons (Take.cons Take.head)) rfl | exact OpP.loadO inferInstance (Val.lz rfl) (Take.cons (Take.cons (Take.cons Take.head))) rfl | exact OpP.loadO inferInstance (Val.lz rfl) (Take.cons (Take.cons (Take.cons (Take.cons Take.head)))) rfl | exact OpP.loadO inferInstance (Val.lz rfl) (Take.app Take.head) rfl | exact OpP.loadO inferInstance (Val.lz rfl) (Take.app (Take.cons Take.head)) rfl | exact OpP.loadO inferInstance (Val.lz rfl) (Take.cons (Take.app Take.head)) rfl | exact OpP.loadO inferInstance (Val.lz rfl) (Take.app (Take.cons (Take.cons Take.head))) rfl | exact OpP.loadO inferInstance (Val.lz rfl) (Take.cons (Take.app (Take.cons Take.head))) rfl | exact OpP.loadO inferInstance (Val.lz rfl) (Take.cons (Take.cons (Take.app Take.head))) rfl | exact OpP.loadO inferInstance (Val.lz rfl) (Take.app (Take.cons (Take.cons (Take.cons Take.head)))) rfl | exact OpP.loadO inferInstance (Val.lz rfl) (Take.cons (Take.app (Take.cons (Take.cons Take.head)))) rfl | exact OpP.loadO inferInstance (Val.lz rfl) (Take.cons (Take.cons (Take.app (Take.cons Take.head)))) rfl | exact OpP.loadO inferInstance (Val.lz rfl) (Take.cons (Take.cons (Take.cons (Take.app Take.head)))) rfl | exact OpP.loadN (Val.lz rfl) (fun _ => ReadsAll.ghost (by assumption)) rfl inferInstance)) ?_
  refine RunL.pure rfl rfl (OpG.onT rfl rfl rfl (OpP.fieldAddr (Val.of rfl) inferInstance)) ?_
  refine RunL.pure rfl rfl (OpG.onT rfl rfl rfl (by first | exact OpP.loadW (Val.lz rfl) Take.head rfl inferInstance | exact OpP.loadW (Val.lz rfl) (Take.cons Take.head) rfl inferInstance | exact OpP.loadW (Val.lz rfl) (Take.cons (Take.cons Take.head)) rfl inferInstance | exact OpP.loadW (Val.lz rfl) (Take.cons (Take.cons (Take.cons Take.head))) rfl inferInstance | exact OpP.loadW (Val.lz rfl) (Take.cons (Take.cons (Take.cons (Take.cons Take.head)))) rfl inferInstance | exact OpP.loadW (Val.lz rfl) (Take.app Take.head) rfl inferInstance | exact OpP.loadW (Val.lz rfl) (Take.app (Take.cons Take.head)) rfl inferInstance | exact OpP.loadW (Val.lz rfl) (Take.cons (Take.app Take.head)) rfl inferInstance | exact OpP.loadW (Val.lz rfl) (Take.app (Take.cons (Take.cons Take.head))) rfl inferInstance | exact OpP.loadW (Val.lz rfl) (Take.cons (Take.app (Take.cons Take.head))) rfl inferInstance | exact OpP.loadW (Val.lz rfl) (Take.cons (Take.cons (Take.app Take.head))) rfl inferInstance | exact OpP.loadW (Val.lz rfl) (Take.app (Take.cons (Take.cons (Take.cons Take.head)))) rfl inferInstance | exact OpP.loadW (Val.lz rfl) (Take.cons (Take.app (Take.cons (Take.cons Take.head)))) rfl inferInstance | exact OpP.loadW (Val.lz rfl) (Take.cons (Take.cons (Take.app (Take.cons Take.head)))) rfl inferInstance | exact OpP.loadW (Val.lz rfl) (Take.cons (Take.cons (Take.cons (Take.app Take.head)))) rfl inferInstance | exact OpP.loadO inferInstance (Val.lz rfl) Take.head rfl | exact OpP.loadO inferInstance (Val.lz rfl) (Take.cons Take.head) rfl | exact OpP.loadO inferInstance (Val.lz rfl) (Take.cons (Take.cons Take.head)) rfl | exact OpP.loadO inferInstance (Val.lz rfl) (Take.cons (Take.cons (Take.cons Take.head))) rfl | exact OpP.loadO inferInstance (Val.lz rfl) (Take.cons (Take.cons (Take.cons (Take.cons Take.head)))) rfl | exact OpP.loadO inferInstance (Val.lz rfl) (Take.app Take.head) rfl | exact OpP.loadO inferInstance (Val.lz rfl) (Take.app (Take.cons Take.head)) rfl | exact OpP.loadO inferInstance (Val.lz rfl) (Take.cons (Take.app Take.head)) rfl | exact OpP.loadO inferInstance (Val.lz rfl) (Take.app (Take.cons (Take.cons Take.head))) rfl | exact OpP.loadO inferInstance (Val.lz rfl) (Take.cons (Take.app (Take.cons Take.head))) rfl | exact OpP.loadO inferInstance (Val.lz rfl) (Take.cons (Take.cons (Take.app Take.head))) rfl | exact OpP.loadO inferInstance (Val.lz rfl) (Take.app (Take.cons (Take.cons (Take.cons Take.head)))) rfl | exact OpP.loadO inferInstance (Val.lz rfl) (Take.cons (Take.app (Take.cons (Take.cons Take.head)))) rfl | exact OpP.loadO inferInstance (Val.lz rfl) (Take.cons (Take.cons (Take.app (Take.cons Take.head)))) rfl | exact OpP.loadO inferInstance (Val.lz rfl) (Take.cons (Take.cons (Take.cons (Take.app Take.head)))) rfl | exact OpP.loadN (Val.lz rfl) (fun _ => ReadsAll.ghost (by assumption)) rfl inferInstance)) ?_
  refine RunL.pure rfl rfl (OpG.onT rfl rfl rfl (OpP.call (by kernel_rfl) (.cons (Val.lz rfl) (.cons (Val.lz rfl) .nil)) (fun hA => by first | (have hct := ref08_Same hx.set hy.set; exact hct) | exact ref08_Same hx.set hy.set))) ?_
  refine RunL.pure rfl rfl (OpG.plain rfl (OpP.pick_and rfl rfl rfl)) ?_
  refine RunL.pure rfl rfl (OpG.plain rfl (OpP.move (Val.of rfl))) ?_
  refine RunL.pure rfl rfl (OpG.onT rfl rfl rfl (OpP.fieldAddr (Val.of rfl) inferInstance)) ?_
  refine RunL.pure rfl rfl (OpG.onT rfl rfl rfl (by first | exact OpP.load1 (Val.lz rfl) (fun _ => .own Take.head rfl) inferInstance | exact OpP.load1 (Val.lz rfl) (fun _ => .own (Take.cons Take.head) rfl) inferInstance | exact OpP.load1 (Val.lz rfl) (fun _ => .own (Take.cons (Take.cons Take.head)) rfl) inferInstance | exact OpP.load1 (Val.lz rfl) (fun _ => .own (Take.cons (Take.cons (Take.cons Take.head))) rfl) inferInstance | exact OpP.load1 (Val.lz rfl) (fun _ => .own (Take.cons (Take.cons (Take.cons (Take.cons Take.head)))) rfl) inferInstance | exact OpP.load1 (Val.lz rfl) (fun _ => .own (Take.app Take.head) rfl) inferInstance | exact OpP.load1 (Val.lz rfl) (fun _ => .own (Take.app (Take.cons Take.head)) rfl) inferInstance | exact OpP.load1 (Val.lz rfl) (fun _ => .own (Take.cons (Take.app Take.head)) rfl) inferInstance | exact OpP.load1 (Val.lz rfl) (fun _ => .own (Take.app (Take.cons (Take.cons Take.head))) rfl) inferInstance | exact OpP.load1 (Val.lz rfl) (fun _ => .own (Take.cons (Take.app (Take.cons Take.head))) rfl) inferInstance | exact OpP.load1 (Val.lz rfl) (fun _ => .own (Take.cons (Take.cons (Take.app Take.head))) rfl) inferInstance | exact OpP.load1 (Val.lz rfl) (fun _ => .own (Take.app (Take.cons (Take.cons (Take.cons Take.head)))) rfl) inferInstance | exact OpP.load1 (Val.lz rfl) (fun _ => .own (Take.cons (Take.app (Take.cons (Take.cons Take.head)))) rfl) inferInstance | exact OpP.load1 (Val.lz rfl) (fun _ => .own (Take.cons (Take.cons (Take.app (Take.cons Take.head)))) rfl) inferInstance | exact OpP.load1 (Val.lz rfl) (fun _ => .own (Take.cons (Take.cons (Take.cons (Take.app Take.head)))) rfl) inferInstance | exact OpP.load1 (Val.lz rfl) (fun _ => .inl (by assumption)) inferInstance)) ?_
  refine RunL.pure rfl rfl (OpG.onT rfl rfl rfl (OpP.fieldAddr (Val.of rfl) inferInstance)) ?_
  refine RunL.pure rfl rfl (OpG.onT rfl rfl rfl (by first | exact OpP.load1 (Val.lz rfl) (fun _ => .own Take.head rfl) inferInstance | exact OpP.load1 (Val.lz rfl) (fun _ => .own (Take.cons Take.head) rfl) inferInstance | exact OpP.load1 (Val.lz rfl) (fun _ => .own (Take.cons (Take.cons Take.head)) rfl) inferInstance | exact OpP.load1 (Val.lz rfl) (fun _ => .own (Take.cons (Take.cons (Take.cons Take.head))) rfl) inferInstance | exact OpP.load1 (Val.lz rfl) (fun _ => .own (Take.cons (Take.cons (Take.cons (Take.cons Take.head)))) rfl) inferInstance | exact OpP.load1 (Val.lz rfl) (fun _ => .own (Take.app Take.head) rfl) inferInstance | exact OpP.load1 (Val.lz rfl) (fun _ => .own (Take.app (Take.cons Take.head)) rfl) inferInstance | exact OpP.load1 (Val.lz rfl) (fun _ => .own (Take.cons (Take.app Take.head)) rfl) inferInstance | exact OpP.load1 (Val.lz rfl) (fun _ => .own (Take.app (Take.cons (Take.cons Take.head))) rfl) inferInstance | exact OpP.load1 (Val.lz rfl) (fun _ => .own (Take.cons (Take.app (Take.cons Take.head))) rfl) inferInstance | exact OpP.load1 (Val.lz rfl) (fun _ => .own (Take.cons (Take.cons (Take.app Take.head))) rfl) inferInstance | exact OpP.load1 (Val.lz rfl) (fun _ => .own (Take.app (Take.cons (Take.cons (Take.cons Take.head)))) rfl) inferInstance | exact OpP.load1 (Val.lz rfl) (fun _ => .own (Take.cons (Take.app (Take.cons (Take.cons Take.head)))) rfl) inferInstance | exact OpP.load1 (Val.lz rfl) (fun _ => .own (Take.cons (Take.cons (Take.app (Take.cons Take.head)))) rfl) inferInstance | exact OpP.load1 (Val.lz rfl) (fun _ => .own (Take.cons (Take.cons (Take.cons (Take.app Take.head)))) rfl) inferInstance | exact OpP.load1 (Val.lz rfl) (fun _ => .inl (by assumption)) inferInstance)) ?_
  refine RunL.pure rfl rfl (OpG.onT rfl rfl rfl (OpP.call (by kernel_rfl) (.cons (Val.lz rfl) (.cons (Val.lz rfl) .nil)) (fun hA => by first | (have hct := ref01_Bytes hx.data hy.data; exact hct) | exact ref01_Bytes hx.data hy.data))) ?_
  refine RunL.pure rfl rfl (OpG.plain rfl (OpP.pick_and rfl rfl rfl)) ?_
  refine RunL.pure rfl rfl (OpG.plain rfl (OpP.assign (Val.of rfl))) ?_
  refine RunL.nil ?_
  refine RunQ.then_normal ?_
  refine Run.ret ?_
  refine RunQ.ret1 rfl rfl ?_
  rfl
def actsFew (l : List ActM) : Bool := l.all actFew && decide ((l.length : Int) ≤ 80)
set_option maxHeartbeats 1000000 in
set_option maxRecDepth 100000 in
theorem ref13_Few {h : GH} {s : Sl} {l : List ActM} (hs : IsActs h s l) : Ctr Tryd.prog 14 [s.v].toArray h [] fun r _ _ => r = .bool (actsFew l) := by
  have hn := hs.n
  have hsm := hs.small
  refine Ctr.of_run Tryd.func14 rfl rfl rfl fun w0 => ?_
  refine Run.seq ?_
  refine Run.region' ?_
  refine RunL.pure rfl rfl (OpG.plain rfl (OpP.assign (Val.of rfl))) ?_
  refine RunL.nil ?_
  refine RunQ.then_normal ?_
  refine Run.seq ?_
  refine Run.seq ?_
  refine Run.region' ?_
  refine RunL.pure rfl rfl (OpG.plain rfl (OpP.assign (Val.of rfl))) ?_
  refine RunL.nil ?_
  refine RunQ.then_normal ?_
  refine Run.block ?_
  refine Run.loopT (fun m E h' L' => ∃ k : Nat, k ≤ l.length ∧ m = l.length - k ∧ h' = h ∧ L' = [] ∧ l.all actFew = (l.drop k).all actFew ∧ E = [(0, s.v), (3, i64v (k : Int))]) l.length ⟨0, Nat.zero_le _, rfl, rfl, rfl, rfl, rfl⟩ ⟨rfl, rfl, trivial⟩ Take.whole ?_
  rintro m E1 h1 L1 ⟨k, hk, rfl, rfl, rfl, hz, rfl⟩
  refine Run.seq ?_
  refine Run.seq ?_
  refine Run.region' ?_
  refine RunL.pure rfl rfl (OpG.plain rfl (OpP.move (Val.of rfl))) ?_
  refine RunL.pure rfl rfl (OpG.plain rfl (OpP.move (Val.of rfl))) ?_
  refine RunL.pure rfl rfl (OpG.plain rfl (OpP.lenSl (Val.of rfl) inferInstance)) ?_
  refine RunL.pure rfl rfl (OpG.plain rfl (OpP.bin (Val.of rfl) (Val.of rfl) rfl)) ?_
  refine RunL.nil ?_
  refine RunQ.then_normal ?_
  refine Run.cond rfl (fun hc0 => ?_) (fun hc0 => ?_)
  · have hlt : k < l.length := by simp only [decide_eq_true_eq] at hc0; omega
    obtain ⟨b, o, c, rfl, hle, hcell⟩ := hs.at (by intro e; subst e; simp at hlt)
    obtain ⟨sv, sm, sd, hox, hx⟩ := hcell k hlt
    rw [List.drop_eq_getElem_cons hlt, List.all_cons] at hz
    refine Run.skip ?_
    refine RunQ.then_normal ?_
    refine Run.seq ?_
    refine Run.block ?_
    refine Run.seq ?_
    refine Run.region' ?_
    refine RunL.pure rfl rfl (OpG.plain rfl (OpP.move (Val.of rfl))) ?_
    refine RunL.pure rfl rfl (OpG.plain rfl (OpP.move (Val.of rfl))) ?_
    refine RunL.pure rfl rfl (OpG.plain rfl (by first | exact OpP.indexSl (Val.of rfl) (Val.of rfl) (fun _ => by omega) inferInstance inferInstance | exact OpP.indexI (Val.of rfl) (Val.of rfl) (fun _ => by omega) (fun _ => by omega) inferInstance inferInstance)) ?_
    refine RunL.pure rfl rfl (OpG.plain rfl (OpP.loadN (Val.of rfl) (fun hA => ReadsAll.ghost hx) rfl inferInstance)) ?_
    refine RunL.pure rfl rfl (OpG.plain rfl (OpP.call (by kernel_rfl) (.cons (Val.of rfl) .nil) (fun hA => by first | (have hct := ref12_Few hox; exact hct) | exact ref12_Few hox))) ?_
    refine RunL.pure rfl rfl (OpG.plain rfl (OpP.not (Val.of rfl))) ?_
    refine RunL.nil ?_
    refine RunQ.then_normal ?_
    refine Run.cond rfl (fun hc1 => ?_) (fun hc1 => ?_)
    · have h2 : actFew l[k] = false := by simpa using hc1
      rw [h2, Bool.false_and] at hz
      refine Run.seq ?_
      refine Run.region' ?_
      refine RunL.pure rfl rfl (OpG.plain rfl (OpP.assign (Val.of rfl))) ?_
      refine RunL.nil ?_
      refine RunQ.then_normal ?_
      refine Run.ret ?_
      refine RunQ.block_ret ?_
      refine RunQ.then_ret ?_
      refine RunQ.then_ret ?_
      refine RunQ.block_ret ?_
      refine RunQ.then_ret ?_
      refine RunQ.ret1 rfl rfl ?_
      rw [actsFew, hz]; rfl
    · have h2 : actFew l[k] = true := by simpa using hc1
      rw [h2, Bool.true_and] at hz
      refine Run.skip ?_
      refine RunQ.block_normal ?_
      refine RunQ.then_normal ?_
      refine Run.region' ?_
      refine RunL.pure rfl rfl (OpG.plain rfl (OpP.move (Val.of rfl))) ?_
      refine RunL.pure rfl rfl (OpG.plain rfl (by first | exact OpP.add64 (Val.of rfl) (Val.of rfl) (by omega) (by omega) | exact OpP.bin (Val.of rfl) (Val.of rfl) rfl)) ?_
      refine RunL.pure rfl rfl (OpG.plain rfl (OpP.assign (Val.of rfl))) ?_
      refine RunL.nil ?_
      exact RunQ.againT (l.length - (k + 1)) (by omega) ⟨k + 1, by omega, rfl, rfl, rfl, hz, rfl⟩ ⟨rfl, rfl, trivial⟩ Take.whole
  · have hge : k = l.length := by simp only [decide_eq_false_iff_not] at hc0; omega
    refine Run.exit ?_
    refine RunQ.then_exit ?_
    refine RunQ.then_exit ?_
    refine RunQ.block_exit ?_
    refine RunQ.then_normal ?_
    refine Run.seq ?_
    refine Run.region' ?_
    refine RunL.pure rfl rfl (OpG.plain rfl (OpP.move (Val.of rfl))) ?_
    refine RunL.pure rfl rfl (OpG.plain rfl (OpP.lenSl (Val.of rfl) inferInstance)) ?_
    refine RunL.pure rfl rfl (OpG.plain rfl (OpP.bin (Val.of rfl) (Val.of rfl) rfl)) ?_
    refine RunL.pure rfl rfl (OpG.plain rfl (OpP.assign (Val.of rfl))) ?_
    refine RunL.nil ?_
    refine RunQ.then_normal ?_
    refine Run.ret ?_
    refine RunQ.ret1 rfl rfl ?_
    rw [hge, List.drop_length] at hz; rw [actsFew, hz, hn]; rfl
def actsSame : List ActM → List ActM → Bool
  | [], [] => true
  | a :: l, b :: l1 => actSame a b && actsSame l l1
  | _, _ => false
theorem actsSame_length : ∀ {l l1 : List ActM}, ¬ l.length = l1.length → actsSame l l1 = false
  | [], [], h => absurd rfl h
  | a :: l, b :: l1, h => by rw [actsSame, actsSame_length (by simpa using h), Bool.and_false]
  | [], _ :: _, _ => rfl
  | _ :: _, [], _ => rfl
set_option maxHeartbeats 1000000 in
set_option maxRecDepth 100000 in
theorem ref13_Same {h : GH} {s s1 : Sl} {l l1 : List ActM} (hs : IsActs h s l) (hs1 : IsActs h s1 l1) : Ctr Tryd.prog 17 [s.v, s1.v].toArray h [] fun r _ _ => r = .bool (actsSame l l1) := by
  have hn := hs.n
  have hsm := hs.small
  have hn1 := hs1.n
  refine Ctr.of_run Tryd.func17 rfl rfl rfl fun w0 => ?_
  refine Run.seq ?_
  refine Run.region' ?_
  refine RunL.pure rfl rfl (OpG.plain rfl (OpP.assign (Val.of rfl))) ?_
  refine RunL.nil ?_
  refine RunQ.then_normal ?_
  refine Run.seq ?_
  refine Run.seq ?_
  refine Run.region' ?_
  refine RunL.pure rfl rfl (OpG.plain rfl (OpP.move (Val.of rfl))) ?_
  refine RunL.pure rfl rfl (OpG.plain rfl (OpP.lenSl (Val.of rfl) inferInstance)) ?_
  refine RunL.pure rfl rfl (OpG.plain rfl (OpP.move (Val.of rfl))) ?_
  refine RunL.pure rfl rfl (OpG.plain rfl (OpP.lenSl (Val.of rfl) inferInstance)) ?_
  refine RunL.pure rfl rfl (OpG.plain rfl (OpP.bin (Val.of rfl) (Val.of rfl) rfl)) ?_
  refine RunL.nil ?_
  refine RunQ.then_normal ?_
  refine Run.cond rfl (fun hc0 => ?_) (fun hc0 => ?_)
  · have hne : ¬ l.length = l1.length := by
      have : ¬ ((s.n : Int) = (s1.n : Int)) := by simpa using hc0
      omega
    refine Run.seq ?_
    refine Run.region' ?_
    refine RunL.pure rfl rfl (OpG.plain rfl (OpP.assign (Val.of rfl))) ?_
    refine RunL.nil ?_
    refine RunQ.then_normal ?_
    refine Run.ret ?_
    refine RunQ.then_ret ?_
    refine RunQ.ret1 rfl rfl ?_
    rw [actsSame_length hne]
  · have hlen : l.length = l1.length := by
      have : (s.n : Int) = (s1.n : Int) := by simpa using hc0
      omega
    refine Run.skip ?_
    refine RunQ.then_normal ?_
    refine Run.seq ?_
    refine Run.seq ?_
    refine Run.region' ?_
    refine RunL.pure rfl rfl (OpG.plain rfl (OpP.assign (Val.of rfl))) ?_
    refine RunL.nil ?_
    refine RunQ.then_normal ?_
    refine Run.block ?_
    refine Run.loopT (fun m E h' L' => ∃ k : Nat, k ≤ l.length ∧ m = l.length - k ∧ h' = h ∧ L' = [] ∧ actsSame l l1 = actsSame (l.drop k) (l1.drop k) ∧ E = [(0, s.v), (1, s1.v), (5, i64v (k : Int))]) l.length ⟨0, Nat.zero_le _, rfl, rfl, rfl, rfl, rfl⟩ ⟨rfl, rfl, rfl, trivial⟩ Take.whole ?_
    rintro m E1 h1 L1 ⟨k, hk, rfl, rfl, rfl, hz, rfl⟩
    refine Run.seq ?_
    refine Run.seq ?_
    refine Run.region' ?_
    refine RunL.pure rfl rfl (OpG.plain rfl (OpP.move (Val.of rfl))) ?_
    refine RunL.pure rfl rfl (OpG.plain rfl (OpP.move (Val.of rfl))) ?_
    refine RunL.pure rfl rfl (OpG.plain rfl (OpP.lenSl (Val.of rfl) inferInstance)) ?_
    refine RunL.pure rfl rfl (OpG.plain rfl (OpP.bin (Val.of rfl) (Val.of rfl) rfl)) ?_
    refine RunL.nil ?_
    refine RunQ.then_normal ?_
    refine Run.cond rfl (fun hc1 => ?_) (fun hc1 => ?_)
    · have hlt : k < l.length := by simp only [decide_eq_true_eq] at hc1; omega
      have hlt1 : k < l1.length := by omega
      obtain ⟨b, o, c, rfl, hle, hcell⟩ := hs.at (by intro e; subst e; simp at hlt)
      obtain ⟨sv, sm, sd, hox, hx⟩ := hcell k hlt
      obtain ⟨b2, o2, c2, rfl, hle2, hcell2⟩ := hs1.at (by intro e; subst e; simp at hlt1)
      obtain ⟨sv2, sm2, sd2, hox2, hx2⟩ := hcell2 k hlt1
      rw [List.drop_eq_getElem_cons hlt, List.drop_eq_getElem_cons hlt1, actsSame] at hz
      refine Run.skip ?_
      refine RunQ.then_normal ?_
      refine Run.seq ?_
      refine Run.block ?_
      refine Run.seq ?_
      apply Run.drawn 10 [_, _, _, _, _, _, _, _, _, _] (by kernel_rfl) rfl (by kernel_rfl)
      · refine FrontOk.cons (OpG.plain rfl (OpP.move (Val.of rfl))) ?_
        refine FrontOk.cons (OpG.plain rfl (OpP.move (Val.of rfl))) ?_
        refine FrontOk.cons (OpG.plain rfl (by first | exact OpP.indexSl (Val.of rfl) (Val.of rfl) (fun _ => by omega) inferInstance inferInstance | exact OpP.indexI (Val.of rfl) (Val.of rfl) (fun _ => by omega) (fun _ => by omega) inferInstance inferInstance)) ?_
        refine FrontOk.cons (OpG.plain rfl (OpP.loadN (Val.of rfl) (fun hA => ReadsAll.ghost hx) rfl inferInstance)) ?_
        refine FrontOk.cons (OpG.plain rfl (OpP.move (Val.of rfl))) ?_
        refine FrontOk.cons (OpG.plain rfl (OpP.move (Val.of rfl))) ?_
        refine FrontOk.cons (OpG.plain rfl (by first | exact OpP.indexSl (Val.of rfl) (Val.of rfl) (fun _ => by omega) inferInstance inferInstance | exact OpP.indexI (Val.of rfl) (Val.of rfl) (fun _ => by omega) (fun _ => by omega) inferInstance inferInstance)) ?_
        refine FrontOk.cons (OpG.plain rfl (OpP.loadN (Val.of rfl) (fun hA => ReadsAll.ghost hx2) rfl inferInstance)) ?_
        refine FrontOk.cons (OpG.plain rfl (OpP.call (by kernel_rfl) (.cons (Val.of rfl) (.cons (Val.of rfl) .nil)) (fun hA => by first | (have hct := ref12_Same hox hox2; exact hct) | exact ref12_Same hox hox2))) ?_
        refine FrontOk.cons (OpG.plain rfl (OpP.not (Val.of rfl))) ?_
        exact FrontOk.nil
      · rfl
      · rfl
      refine RunL.nil ?_
      refine RunQ.then_normal ?_
      refine Run.cond rfl (fun hc2 => ?_) (fun hc2 => ?_)
      · have h2 : actSame l[k] l1[k] = false := by simpa using hc2
        rw [h2, Bool.false_and] at hz
        refine Run.seq ?_
        refine Run.region' ?_
        refine RunL.pure rfl rfl (OpG.plain rfl (OpP.assign (Val.of rfl))) ?_
        refine RunL.nil ?_
        refine RunQ.then_normal ?_
        refine Run.ret ?_
        refine RunQ.block_ret ?_
        refine RunQ.then_ret ?_
        refine RunQ.then_ret ?_
        refine RunQ.block_ret ?_
        refine RunQ.then_ret ?_
        refine RunQ.ret1 rfl rfl ?_
        rw [hz]
      · have h2 : actSame l[k] l1[k] = true := by simpa using hc2
        rw [h2, Bool.true_and] at hz
        refine Run.skip ?_
        refine RunQ.block_normal ?_
        refine RunQ.then_normal ?_
        refine Run.region' ?_
        refine RunL.pure rfl rfl (OpG.plain rfl (OpP.move (Val.of rfl))) ?_
        refine RunL.pure rfl rfl (OpG.plain rfl (by first | exact OpP.add64 (Val.of rfl) (Val.of rfl) (by omega) (by omega) | exact OpP.bin (Val.of rfl) (Val.of rfl) rfl)) ?_
        refine RunL.pure rfl rfl (OpG.plain rfl (OpP.assign (Val.of rfl))) ?_
        refine RunL.nil ?_
        exact RunQ.againT (l.length - (k + 1)) (by omega) ⟨k + 1, by omega, rfl, rfl, rfl, hz, rfl⟩ ⟨rfl, rfl, rfl, trivial⟩ Take.whole
    · have hge : k = l.length := by simp only [decide_eq_false_iff_not] at hc1; omega
      refine Run.exit ?_
      refine RunQ.then_exit ?_
      refine RunQ.then_exit ?_
      refine RunQ.block_exit ?_
      refine RunQ.then_normal ?_
      refine Run.seq ?_
      refine Run.region' ?_
      refine RunL.pure rfl rfl (OpG.plain rfl (OpP.assign (Val.of rfl))) ?_
      refine RunL.nil ?_
      refine RunQ.then_normal ?_
      refine Run.ret ?_
      refine RunQ.ret1 rfl rfl ?_
      rw [hge, List.drop_length, hlen, List.drop_length] at hz; rw [hz]; rfl
end Go.Proofs.YtcckofgleghbgaaDoor
