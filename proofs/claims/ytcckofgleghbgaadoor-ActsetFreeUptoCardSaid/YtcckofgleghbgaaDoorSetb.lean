/- Contracts: actset.Right, Drops; slices.Insert, DeleteFunc at lists of actions. -/
import Derived.Test.YtcckofgleghbgaaDoorSet
namespace Go.Proofs.YtcckofgleghbgaaDoor
open Go Sx
theorem setGo_prev (l : List ActM) (k : Nat) (x : ActM) (r : List ActM) : setGo (prevPlace l k) (x :: r) = if (!actMay x || (decide ((k : Int) > 0) && decide (placeOrd (placeOf l[k - 1]!) (placeOf x) ≥ 0))) then false else setGo (some (placeOf x)) r := by
  unfold prevPlace
  by_cases hk : k = 0
  · subst hk; simp [setGo]
  · rw [if_neg hk, setGo]
    have : decide ((k : Int) > 0) = true := by simp; omega
    rw [this, Bool.true_and]
set_option maxHeartbeats 1000000 in
set_option maxRecDepth 100000 in
theorem actset_Right {h : GH} {s : Sl} {l : List ActM} (hs : IsActs h s l) : Ctr Tryd.prog 18 [s.v].toArray h [] fun r h' _ => r = .bool (setRight l) := by
  have hn := hs.n
  have hsm := hs.small
  refine Ctr.of_run Tryd.func18 rfl rfl rfl fun w0 => ?_
  refine Run.seq ?_
  refine Run.region' ?_
  refine RunL.pure rfl rfl (OpG.plain rfl (OpP.assign (Val.of rfl))) ?_
  refine RunL.nil ?_
  refine RunQ.then_normal ?_
  refine Run.seq ?_
  refine Run.seq ?_
  refine Run.region' ?_
  refine RunL.pure rfl rfl (OpG.plain rfl (OpP.move (Val.of rfl))) ?_
  refine RunL.pure rfl rfl (OpG.plain rfl (OpP.lenSl (Val.of rfl) inferInstance)) ?_
  refine RunL.pure rfl rfl (OpG.plain rfl (OpP.move (Val.of rfl))) ?_
  refine RunL.nil ?_
  refine RunQ.then_normal ?_
  refine Run.block ?_
  refine Run.loopT (fun m E h' L' => ∃ k : Nat, k ≤ l.length ∧ m = l.length - k ∧ h' = h ∧ L' = [] ∧ setRight l = setGo (prevPlace l k) (l.drop k) ∧ E = [(0, s.v), (5, s.v), (6, .int .i64 (s.n : Int)), (7, i64v (k : Int))]) l.length ⟨0, Nat.zero_le _, rfl, rfl, rfl, rfl, rfl⟩ ⟨rfl, rfl, rfl, rfl, trivial⟩ Take.whole ?_
  rintro m E1 h1 L1 ⟨k, hk, rfl, rfl, rfl, hz, rfl⟩
  refine Run.seq ?_
  refine Run.region' ?_
  refine RunL.pure rfl rfl (OpG.plain rfl (OpP.bin (Val.of rfl) (Val.of rfl) rfl)) ?_
  refine RunL.nil ?_
  refine RunQ.then_normal ?_
  refine Run.seq ?_
  refine Run.cond rfl (fun hc0 => ?_) (fun hc0 => ?_)
  · have hlt : k < l.length := by simp only [decide_eq_true_eq] at hc0; omega
    obtain ⟨b, o, c, rfl, hle, hcell⟩ := hs.at (by intro e; subst e; simp at hlt)
    obtain ⟨sv, sm, sd, hox, hx⟩ := hcell k hlt
    rw [List.drop_eq_getElem_cons hlt, setGo_prev] at hz
    obtain ⟨sv0, sm0, sd0, hprev⟩ : ∃ sv0 sm0 sd0 : Sl, 0 < k → Cells h1 b (o + ((k : Int) - 1).toNat * 10) (actC l[k - 1]! sv0 sm0 sd0) := by
      by_cases h0 : 0 < k
      · obtain ⟨sv0, sm0, sd0, _, g2⟩ := hcell (k - 1) (by omega)
        refine ⟨sv0, sm0, sd0, fun _ => ?_⟩
        rw [getElem!_pos l (k - 1) (by omega), show ((k : Int) - 1).toNat = k - 1 by omega]
        exact g2
      · exact ⟨Sl.none, Sl.none, Sl.none, fun h => absurd h h0⟩
    refine Run.skip ?_
    refine RunQ.then_normal ?_
    refine Run.seq ?_
    refine Run.block ?_
    refine Run.seq ?_
    refine Run.region' ?_
    refine RunL.pure rfl rfl (OpG.plain rfl (OpP.move (Val.of rfl))) ?_
    refine RunL.pure rfl rfl (OpG.plain rfl (by first | exact OpP.indexSl (Val.of rfl) (Val.of rfl) (fun _ => by omega) inferInstance inferInstance | exact OpP.indexI (Val.of rfl) (Val.of rfl) (fun _ => by omega) (fun _ => by omega) inferInstance inferInstance)) ?_
    refine RunL.pure rfl rfl (OpG.plain rfl (OpP.loadN (Val.of rfl) (fun hA => ReadsAll.ghost hx) rfl inferInstance)) ?_
    refine RunL.alloc inferInstance rfl rfl fun b1 => ?_
    refine RunL.pure rfl rfl (OpG.plain rfl (OpP.assign (Val.of rfl))) ?_
    apply RunL.store inferInstance rfl rfl
    · first | exact Take.head | exact (Take.cons Take.head) | exact (Take.cons (Take.cons Take.head)) | exact (Take.cons (Take.cons (Take.cons Take.head))) | exact (Take.cons (Take.cons (Take.cons (Take.cons Take.head)))) | exact (Take.app Take.head) | exact (Take.app (Take.cons Take.head)) | exact (Take.cons (Take.app Take.head)) | exact (Take.app (Take.cons (Take.cons Take.head))) | exact (Take.cons (Take.app (Take.cons Take.head))) | exact (Take.cons (Take.cons (Take.app Take.head))) | exact (Take.app (Take.cons (Take.cons (Take.cons Take.head)))) | exact (Take.cons (Take.app (Take.cons (Take.cons Take.head)))) | exact (Take.cons (Take.cons (Take.app (Take.cons Take.head)))) | exact (Take.cons (Take.cons (Take.cons (Take.app Take.head))))
    · rfl
    · rfl
    · rfl
    · rfl
    refine RunL.nil ?_
    refine RunQ.then_normal ?_
    refine Run.seq ?_
    apply Run.drawn 19 [_, _, _, _, _, _, _, _, _, _, _, _, _, _, _, _, _, _, _] (by kernel_rfl) rfl (by kernel_rfl)
    · refine FrontOk.cons (OpG.plain rfl (by first | exact OpP.loadW (Val.of rfl) Take.head rfl inferInstance | exact OpP.loadW (Val.of rfl) (Take.cons Take.head) rfl inferInstance | exact OpP.loadW (Val.of rfl) (Take.cons (Take.cons Take.head)) rfl inferInstance | exact OpP.loadW (Val.of rfl) (Take.cons (Take.cons (Take.cons Take.head))) rfl inferInstance | exact OpP.loadW (Val.of rfl) (Take.cons (Take.cons (Take.cons (Take.cons Take.head)))) rfl inferInstance | exact OpP.loadW (Val.of rfl) (Take.app Take.head) rfl inferInstance | exact OpP.loadW (Val.of rfl) (Take.app (Take.cons Take.head)) rfl inferInstance | exact OpP.loadW (Val.of rfl) (Take.cons (Take.app Take.head)) rfl inferInstance | exact OpP.loadW (Val.of rfl) (Take.app (Take.cons (Take.cons Take.head))) rfl inferInstance | exact OpP.loadW (Val.of rfl) (Take.cons (Take.app (Take.cons Take.head))) rfl inferInstance | exact OpP.loadW (Val.of rfl) (Take.cons (Take.cons (Take.app Take.head))) rfl inferInstance | exact OpP.loadW (Val.of rfl) (Take.app (Take.cons (Take.cons (Take.cons Take.head)))) rfl inferInstance | exact OpP.loadW (Val.of rfl) (Take.cons (Take.app (Take.cons (Take.cons Take.head)))) rfl inferInstance | exact OpP.loadW (Val.of rfl) (Take.cons (Take.cons (Take.app (Take.cons Take.head)))) rfl inferInstance | exact OpP.loadW (Val.of rfl) (Take.cons (Take.cons (Take.cons (Take.app Take.head)))) rfl inferInstance | exact OpP.loadO inferInstance (Val.of rfl) Take.head rfl | exact OpP.loadO inferInstance (Val.of rfl) (Take.cons Take.head) rfl | exact OpP.loadO inferInstance (Val.of rfl) (Take.cons (Take.cons Take.head)) rfl | exact OpP.loadO inferInstance (Val.of rfl) (Take.cons (Take.cons (Take.cons Take.head))) rfl | exact OpP.loadO inferInstance (Val.of rfl) (Take.cons (Take.cons (Take.cons (Take.cons Take.head)))) rfl | exact OpP.loadO inferInstance (Val.of rfl) (Take.app Take.head) rfl | exact OpP.loadO inferInstance (Val.of rfl) (Take.app (Take.cons Take.head)) rfl | exact OpP.loadO inferInstance (Val.of rfl) (Take.cons (Take.app Take.head)) rfl | exact OpP.loadO inferInstance (Val.of rfl) (Take.app (Take.cons (Take.cons Take.head))) rfl | exact OpP.loadO inferInstance (Val.of rfl) (Take.cons (Take.app (Take.cons Take.head))) rfl | exact OpP.loadO inferInstance (Val.of rfl) (Take.cons (Take.cons (Take.app Take.head))) rfl | exact OpP.loadO inferInstance (Val.of rfl) (Take.app (Take.cons (Take.cons (Take.cons Take.head)))) rfl | exact OpP.loadO inferInstance (Val.of rfl) (Take.cons (Take.app (Take.cons (Take.cons Take.head)))) rfl | exact OpP.loadO inferInstance (Val.of rfl) (Take.cons (Take.cons (Take.app (Take.cons Take.head)))) rfl | exact OpP.loadO inferInstance (Val.of rfl) (Take.cons (Take.cons (Take.cons (Take.app Take.head)))) rfl | exact OpP.loadN (Val.of rfl) (fun _ => ReadsAll.ghost (by assumption)) rfl inferInstance)) ?_
      refine FrontOk.cons (OpG.plain rfl (OpP.call (by kernel_rfl) (.cons (Val.of rfl) .nil) (fun hA => by first | (have hct := actset_may hox; exact hct) | exact actset_may hox))) ?_
      refine FrontOk.cons (OpG.plain rfl (OpP.not (Val.of rfl))) ?_
      refine FrontOk.cons (OpG.plain rfl (OpP.move (Val.of rfl))) ?_
      refine FrontOk.cons (OpG.onF rfl rfl rfl (OpP.move (Val.of rfl))) ?_
      refine FrontOk.cons (OpG.onF rfl rfl rfl (OpP.bin (Val.lz rfl) (Val.of rfl) rfl)) ?_
      refine FrontOk.cons (OpG.onF rfl rfl rfl (OpP.move (Val.lz rfl))) ?_
      refine FrontOk.cons (OpG.onT' rfl rfl rfl (OpP.move (Val.of rfl))) ?_
      refine FrontOk.cons (OpG.onT' rfl rfl rfl (OpP.move (Val.of rfl))) ?_
      refine FrontOk.cons (OpG.onT' rfl rfl rfl (OpP.sub64 (Val.lz rfl) (Val.of rfl) (by omega) (by omega))) ?_
      refine FrontOk.cons (OpG.onT' rfl rfl rfl (OpP.indexI (Val.lz rfl) (Val.lz rfl) (fun hA => by have h2 := (Bool.and_eq_true_iff.1 hA).2; simp only [decide_eq_true_eq] at h2; omega) (fun hA => by omega) inferInstance inferInstance)) ?_
      refine FrontOk.cons (OpG.onT' rfl rfl rfl (OpP.loadN (Val.lz rfl) (fun hA => ReadsAll.ghost (hprev (by have h2 := (Bool.and_eq_true_iff.1 hA).2; simp only [decide_eq_true_eq] at h2; omega))) rfl inferInstance)) ?_
      refine FrontOk.cons (OpG.onT' rfl rfl rfl (OpP.call (by kernel_rfl) (.cons (Val.lz rfl) .nil) (fun hA => by first | (have hct := actset_of; exact hct) | exact actset_of))) ?_
      refine FrontOk.cons (OpG.onT' rfl rfl rfl (by first | exact OpP.loadW (Val.of rfl) Take.head rfl inferInstance | exact OpP.loadW (Val.of rfl) (Take.cons Take.head) rfl inferInstance | exact OpP.loadW (Val.of rfl) (Take.cons (Take.cons Take.head)) rfl inferInstance | exact OpP.loadW (Val.of rfl) (Take.cons (Take.cons (Take.cons Take.head))) rfl inferInstance | exact OpP.loadW (Val.of rfl) (Take.cons (Take.cons (Take.cons (Take.cons Take.head)))) rfl inferInstance | exact OpP.loadW (Val.of rfl) (Take.app Take.head) rfl inferInstance | exact OpP.loadW (Val.of rfl) (Take.app (Take.cons Take.head)) rfl inferInstance | exact OpP.loadW (Val.of rfl) (Take.cons (Take.app Take.head)) rfl inferInstance | exact OpP.loadW (Val.of rfl) (Take.app (Take.cons (Take.cons Take.head))) rfl inferInstance | exact OpP.loadW (Val.of rfl) (Take.cons (Take.app (Take.cons Take.head))) rfl inferInstance | exact OpP.loadW (Val.of rfl) (Take.cons (Take.cons (Take.app Take.head))) rfl inferInstance | exact OpP.loadW (Val.of rfl) (Take.app (Take.cons (Take.cons (Take.cons Take.head)))) rfl inferInstance | exact OpP.loadW (Val.of rfl) (Take.cons (Take.app (Take.cons (Take.cons Take.head)))) rfl inferInstance | exact OpP.loadW (Val.of rfl) (Take.cons (Take.cons (Take.app (Take.cons Take.head)))) rfl inferInstance | exact OpP.loadW (Val.of rfl) (Take.cons (Take.cons (Take.cons (Take.app Take.head)))) rfl inferInstance | exact OpP.loadO inferInstance (Val.of rfl) Take.head rfl | exact OpP.loadO inferInstance (Val.of rfl) (Take.cons Take.head) rfl | exact OpP.loadO inferInstance (Val.of rfl) (Take.cons (Take.cons Take.head)) rfl | exact OpP.loadO inferInstance (Val.of rfl) (Take.cons (Take.cons (Take.cons Take.head))) rfl | exact OpP.loadO inferInstance (Val.of rfl) (Take.cons (Take.cons (Take.cons (Take.cons Take.head)))) rfl | exact OpP.loadO inferInstance (Val.of rfl) (Take.app Take.head) rfl | exact OpP.loadO inferInstance (Val.of rfl) (Take.app (Take.cons Take.head)) rfl | exact OpP.loadO inferInstance (Val.of rfl) (Take.cons (Take.app Take.head)) rfl | exact OpP.loadO inferInstance (Val.of rfl) (Take.app (Take.cons (Take.cons Take.head))) rfl | exact OpP.loadO inferInstance (Val.of rfl) (Take.cons (Take.app (Take.cons Take.head))) rfl | exact OpP.loadO inferInstance (Val.of rfl) (Take.cons (Take.cons (Take.app Take.head))) rfl | exact OpP.loadO inferInstance (Val.of rfl) (Take.app (Take.cons (Take.cons (Take.cons Take.head)))) rfl | exact OpP.loadO inferInstance (Val.of rfl) (Take.cons (Take.app (Take.cons (Take.cons Take.head)))) rfl | exact OpP.loadO inferInstance (Val.of rfl) (Take.cons (Take.cons (Take.app (Take.cons Take.head)))) rfl | exact OpP.loadO inferInstance (Val.of rfl) (Take.cons (Take.cons (Take.cons (Take.app Take.head)))) rfl | exact OpP.loadN (Val.of rfl) (fun _ => ReadsAll.ghost (by assumption)) rfl inferInstance)) ?_
      refine FrontOk.cons (OpG.onT' rfl rfl rfl (OpP.call (by kernel_rfl) (.cons (Val.lz rfl) .nil) (fun hA => by first | (have hct := actset_of; exact hct) | exact actset_of))) ?_
      refine FrontOk.cons (OpG.onT' rfl rfl rfl (OpP.call (by kernel_rfl) (.cons (Val.lz rfl) (.cons (Val.lz rfl) .nil)) (fun hA => by first | (have hct := place_order; exact hct) | exact place_order))) ?_
      refine FrontOk.cons (OpG.onT' rfl rfl rfl (OpP.bin (Val.lz rfl) (Val.of rfl) rfl)) ?_
      refine FrontOk.cons (OpG.onF rfl rfl rfl (OpP.pick_and' rfl rfl rfl)) ?_
      refine FrontOk.cons (OpG.plain rfl (OpP.pick_or rfl rfl rfl)) ?_
      exact FrontOk.nil
    · rfl
    · rfl
    refine RunL.nil ?_
    refine RunQ.then_normal ?_
    refine Run.cond rfl (fun hc1 => ?_) (fun hc1 => ?_)
    · have h1 : (!actMay l[k] || (decide ((k : Int) > 0) && decide (placeOrd (placeOf l[k - 1]!) (placeOf l[k]) ≥ 0))) = true := hc1
      rw [if_pos h1] at hz
      refine Run.seq ?_
      refine Run.region' ?_
      refine RunL.pure rfl rfl (OpG.plain rfl (OpP.assign (Val.of rfl))) ?_
      refine RunL.nil ?_
      refine RunQ.then_normal ?_
      refine Run.ret ?_
      refine RunQ.block_ret ?_
      refine RunQ.then_ret ?_
      refine RunQ.then_ret ?_
      refine RunQ.block_ret ?_
      refine RunQ.then_ret ?_
      refine RunQ.ret1 rfl rfl ?_
      rw [hz]
    · have h1 : (!actMay l[k] || (decide ((k : Int) > 0) && decide (placeOrd (placeOf l[k - 1]!) (placeOf l[k]) ≥ 0))) = false := hc1
      rw [if_neg (by rw [h1]; simp)] at hz
      refine Run.skip ?_
      refine RunQ.block_normal ?_
      refine RunQ.then_normal ?_
      refine Run.region' ?_
      refine RunL.pure rfl rfl (OpG.plain rfl (by first | exact OpP.add64 (Val.of rfl) (Val.of rfl) (by omega) (by omega) | exact OpP.bin (Val.of rfl) (Val.of rfl) rfl)) ?_
      refine RunL.pure rfl rfl (OpG.plain rfl (OpP.move (Val.of rfl))) ?_
      refine RunL.nil ?_
      exact RunQ.againT (l.length - (k + 1)) (by omega) ⟨k + 1, by omega, rfl, rfl, rfl, by rw [hz, prevPlace, if_neg (by omega), Nat.add_sub_cancel, getElem!_pos l k hlt], rfl⟩ ⟨rfl, rfl, rfl, rfl, trivial⟩ Take.nothing
  · have hge : k = l.length := by simp only [decide_eq_false_iff_not] at hc0; omega
    refine Run.exit ?_
    refine RunQ.then_exit ?_
    refine RunQ.then_exit ?_
    refine RunQ.block_exit ?_
    refine RunQ.then_normal ?_
    refine Run.seq ?_
    refine Run.region' ?_
    refine RunL.pure rfl rfl (OpG.plain rfl (OpP.assign (Val.of rfl))) ?_
    refine RunL.nil ?_
    refine RunQ.then_normal ?_
    refine Run.ret ?_
    refine RunQ.ret1 rfl rfl ?_
    rw [hge, List.drop_length] at hz; rw [hz]; rfl
def setDrops (l : List ActM) : Bool := !setRight l || (!actsHas l 0 && !actsHas l 22)
set_option maxRecDepth 100000 in
theorem actset_Drops {h : GH} {s : Sl} {l : List ActM} (hs : IsActs h s l) : Ctr Tryd.prog 40 [s.v].toArray h [] fun r h' _ => r = .bool (setDrops l) := by
  refine Ctr.of_run Tryd.func40 rfl rfl rfl fun w0 => ?_
  refine Run.seq ?_
  refine Run.region' ?_
  refine RunL.pure rfl rfl (OpG.plain rfl (OpP.assign (Val.of rfl))) ?_
  refine RunL.nil ?_
  refine RunQ.then_normal ?_
  refine Run.seq ?_
  refine Run.region' ?_
  refine RunL.pure rfl rfl (OpG.plain rfl (OpP.move (Val.of rfl))) ?_
  refine RunL.pure rfl rfl (OpG.plain rfl (OpP.call (by kernel_rfl) (.cons (Val.of rfl) .nil) (fun hA => by first | (have hct := actset_Right hs; exact hct) | exact actset_Right hs))) ?_
  refine RunL.pure rfl rfl (OpG.plain rfl (OpP.not (Val.of rfl))) ?_
  refine RunL.pure rfl rfl (OpG.plain rfl (OpP.move (Val.of rfl))) ?_
  refine RunL.pure rfl rfl (OpG.onF rfl rfl rfl (OpP.move (Val.of rfl))) ?_
  refine RunL.pure rfl rfl (OpG.onF rfl rfl rfl (OpP.call (by kernel_rfl) (.cons (Val.lz rfl) (.cons (Val.of rfl) .nil)) (fun hA => by first | (have hct := actset_has hs; exact hct) | exact actset_has hs))) ?_
  refine RunL.pure rfl rfl (OpG.onF rfl rfl rfl (OpP.not (Val.lz rfl))) ?_
  refine RunL.pure rfl rfl (OpG.onF rfl rfl rfl (OpP.move (Val.lz rfl))) ?_
  refine RunL.pure rfl rfl (OpG.onT' rfl rfl rfl (OpP.move (Val.of rfl))) ?_
  refine RunL.pure rfl rfl (OpG.onT' rfl rfl rfl (OpP.call (by kernel_rfl) (.cons (Val.lz rfl) (.cons (Val.of rfl) .nil)) (fun hA => by first | (have hct := actset_has hs; exact hct) | exact actset_has hs))) ?_
  refine RunL.pure rfl rfl (OpG.onT' rfl rfl rfl (OpP.not (Val.lz rfl))) ?_
  refine RunL.pure rfl rfl (OpG.onF rfl rfl rfl (OpP.pick_and' rfl rfl rfl)) ?_
  refine RunL.pure rfl rfl (OpG.plain rfl (OpP.pick_or rfl rfl rfl)) ?_
  refine RunL.pure rfl rfl (OpG.plain rfl (OpP.assign (Val.of rfl))) ?_
  refine RunL.nil ?_
  refine RunQ.then_normal ?_
  refine Run.ret ?_
  refine RunQ.ret1 rfl rfl ?_
  rfl
end Go.Proofs.YtcckofgleghbgaaDoor
