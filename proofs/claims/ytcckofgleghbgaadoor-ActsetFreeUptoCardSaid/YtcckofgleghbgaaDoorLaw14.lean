/- Contracts: gunwalelaw14: sure. -/
import Derived.Test.YtcckofgleghbgaaDoorSetn
namespace Go.Proofs.YtcckofgleghbgaaDoor
open Go Sx
theorem IsActs.ofCss {h : GH} {s : Sl} {l : List ActM} {css : List (List Value)} (hs : IsSl h 10 s css.flatten) (hr : Reps 10 ActR h l css) (hl : l.length ≤ 4000000) : IsActs h s l := ⟨IsRep.ofReps hs hr, hl⟩
theorem oxmFew_small {o : OxmM} (hf : oxmFew o = true) : o.val.length + o.mask.length ≤ 140737488355328 := by
  unfold oxmFew at hf
  simp only [Bool.and_eq_true, decide_eq_true_eq] at hf
  omega
theorem actFew_small {x : ActM} (hf : actFew x = true) : ActSmall x := by
  unfold actFew at hf
  simp only [Bool.and_eq_true] at hf
  exact oxmFew_small hf.1
theorem actsFew_small {l : List ActM} (hf : l.all actFew = true) : ∀ x ∈ l, ActSmall x := fun x hx => actFew_small (List.all_eq_true.1 hf x hx)
/-- An action that bears no field. -/
def actN (t : Int) (a : UInt64) : ActM := ⟨t, a, 0, noOxm, []⟩
theorem actN_rep {h : GH} (t : Int) (a : UInt64) : ActR h (actN t a) (actC (actN t a) Sl.none Sl.none Sl.none) := ⟨Sl.none, Sl.none, Sl.none, rfl, IsOxm.no, IsBytes.nilb⟩
abbrev actNC (t : Int) (a : UInt64) : List Value := actC (actN t a) Sl.none Sl.none Sl.none
set_option maxRecDepth 100000 in
theorem law14_w1 : setWrite [] [actN 0 3, actN 18 0, actN 0 4] = ([actN 18 0, actN 0 4], 0) := by decide +kernel
theorem law14_w2 : setWrite [actN 18 0, actN 0 4] [actN 22 9] = ([actN 18 0, actN 22 9, actN 0 4], 0) := by decide +kernel
theorem law14_w3 : setWrite [] [actN 0 0] = ([], 10001) := by decide +kernel
theorem law14_p : setPlan [actN 18 0, actN 22 9, actN 0 4] = [actN 18 0, actN 22 9] := by decide +kernel
theorem law14_d1 : setDrops [actN 18 0, actN 0 4] = false := by decide +kernel
theorem law14_d2 : setDrops [actN 18 0] = true := by decide +kernel
set_option maxHeartbeats 4000000 in
set_option maxRecDepth 100000 in
theorem law14_sure {h : GH} : Ctr Tryd.prog 15 ([] : List Value).toArray h [] fun r h' _ => r = .bool true := by
  refine Ctr.of_run Tryd.func15 rfl rfl rfl fun w0 => ?_
  refine Run.seq ?_
  refine Run.region' ?_
  refine RunL.pure rfl rfl (OpG.plain rfl (OpP.assign (Val.of rfl))) ?_
  refine RunL.nil ?_
  refine RunQ.then_normal ?_
  refine Run.seq ?_
  refine Run.region' ?_
  refine RunL.pure rfl rfl (OpG.plain rfl (OpP.build inferInstance rfl rfl)) ?_
  refine RunL.pure rfl rfl (OpG.plain rfl (OpP.build inferInstance rfl rfl)) ?_
  refine RunL.pure rfl rfl (OpG.plain rfl (OpP.build inferInstance rfl rfl)) ?_
  refine RunL.buildSlice inferInstance inferInstance inferInstance rfl rfl rfl rfl rfl rfl fun b1 => ?_
  refine RunL.freezeB (m := 3) (size := 10) (c := [actNC 0 3, actNC 18 0, actNC 0 4].flatten) Take.head rfl (by simp [maxLen]) fun h1 hle1 hs1 => ?_
  have hA1 : IsActs h1 _ [actN 0 3, actN 18 0, actN 0 4] := .ofCss hs1 (Reps.cons (actN_rep _ _) rfl (Reps.cons (actN_rep _ _) rfl (Reps.cons (actN_rep _ _) rfl Reps.nil))) (by simp)
  have hct := actset_Write (set := []) IsActs.nil hA1 (by simp) (actsFew_small (by decide +kernel)) (by simp)
  rw [law14_w1] at hct
  refine RunL.call rfl (by kernel_rfl) rfl Take.nothing hct (fun v h2 N2 hle2 hx2 => ?_)
  obtain ⟨hN2, s2, hv2, hs2⟩ := hx2
  subst hN2 hv2
  refine RunL.pure rfl rfl (OpG.plain rfl (OpP.move (Val.of rfl))) ?_
  refine RunL.pure rfl rfl (OpG.plain rfl (OpP.extract (Val.of rfl) rfl)) ?_
  refine RunL.pure rfl rfl (OpG.plain rfl (OpP.extract (Val.of rfl) rfl)) ?_
  refine RunL.pure rfl rfl (OpG.plain rfl (OpP.assign (Val.of rfl))) ?_
  refine RunL.pure rfl rfl (OpG.plain rfl (OpP.assign (Val.of rfl))) ?_
  refine RunL.nil ?_
  refine RunQ.then_normal ?_
  refine Run.seq ?_
  refine Run.region' ?_
  refine RunL.pure rfl rfl (OpG.plain rfl (OpP.move (Val.of rfl))) ?_
  refine RunL.pure rfl rfl (OpG.plain rfl (OpP.build inferInstance rfl rfl)) ?_
  refine RunL.buildSlice inferInstance inferInstance inferInstance rfl rfl rfl rfl rfl rfl fun b2 => ?_
  refine RunL.freezeB (m := 1) (size := 10) (c := [actNC 22 9].flatten) Take.head rfl (by simp [maxLen]) fun h3 hle3 hs3 => ?_
  have hA3 : IsActs h3 _ [actN 22 9] := .ofCss hs3 (Reps.cons (actN_rep _ _) rfl Reps.nil) (by simp)
  replace hs2 := hs2.mono hle3
  have hct := actset_Write hs2 hA3 (actsFew_small (by decide +kernel)) (actsFew_small (by decide +kernel)) (by simp)
  rw [law14_w2] at hct
  refine RunL.call rfl (by kernel_rfl) rfl Take.nothing hct (fun v h4 N4 hle4 hx4 => ?_)
  obtain ⟨hN4, s4, hv4, hs4⟩ := hx4
  subst hN4 hv4
  replace hs2 := hs2.mono hle4
  refine RunL.pure rfl rfl (OpG.plain rfl (OpP.move (Val.of rfl))) ?_
  refine RunL.pure rfl rfl (OpG.plain rfl (OpP.extract (Val.of rfl) rfl)) ?_
  refine RunL.pure rfl rfl (OpG.plain rfl (OpP.extract (Val.of rfl) rfl)) ?_
  refine RunL.pure rfl rfl (OpG.plain rfl (OpP.assign (Val.of rfl))) ?_
  refine RunL.pure rfl rfl (OpG.plain rfl (OpP.assign (Val.of rfl))) ?_
  refine RunL.nil ?_
  refine RunQ.then_normal ?_
  refine Run.seq ?_
  refine Run.region' ?_
  refine RunL.pure rfl rfl (OpG.plain rfl (OpP.build inferInstance rfl rfl)) ?_
  refine RunL.buildSlice inferInstance inferInstance inferInstance rfl rfl rfl rfl rfl rfl fun b3 => ?_
  refine RunL.freezeB (m := 1) (size := 10) (c := [actNC 0 0].flatten) Take.head rfl (by simp [maxLen]) fun h5 hle5 hs5 => ?_
  have hA5 : IsActs h5 _ [actN 0 0] := .ofCss hs5 (Reps.cons (actN_rep _ _) rfl Reps.nil) (by simp)
  have hct := actset_Write (set := []) IsActs.nil hA5 (by simp) (actsFew_small (by decide +kernel)) (by simp)
  rw [law14_w3] at hct
  refine RunL.call rfl (by kernel_rfl) rfl Take.nothing hct (fun v h6 N6 hle6 hx6 => ?_)
  obtain ⟨hN6, s6, hv6, hs6⟩ := hx6
  subst hN6 hv6
  replace hs2 := hs2.mono (hle5.trans hle6)
  replace hs4 := hs4.mono (hle5.trans hle6)
  have hn2 := hs2.n
  have hn4 := hs4.n
  obtain ⟨css4, hsl4, _⟩ := hs4.rep.reps
  obtain ⟨css2, hsl2, _⟩ := hs2.rep.reps
  have hc4 := hsl4.le
  have hc2 := hsl2.le
  simp only [List.length_cons, List.length_nil] at hn2 hn4
  refine RunL.pure rfl rfl (OpG.plain rfl (OpP.move (Val.of rfl))) ?_
  refine RunL.pure rfl rfl (OpG.plain rfl (OpP.extract (Val.of rfl) rfl)) ?_
  refine RunL.pure rfl rfl (OpG.plain rfl (OpP.extract (Val.of rfl) rfl)) ?_
  refine RunL.pure rfl rfl (OpG.plain rfl (OpP.assign (Val.of rfl))) ?_
  refine RunL.pure rfl rfl (OpG.plain rfl (OpP.assign (Val.of rfl))) ?_
  refine RunL.nil ?_
  refine RunQ.then_normal ?_
  refine Run.seq ?_
  apply Run.drawS 40 [true, true, true, true, true, true, false, false, false, false, false, false, false, false, false, false, false, false, false, false, false, false, false, false, false, false, false, false, false, false, false, false, false, false, false, false, false, false, false, false] [_, _, _, _, _, _, undef, undef, undef, undef, undef, undef, undef, undef, undef, undef, undef, undef, undef, undef, undef, undef, undef, undef, undef, undef, undef, undef, undef, undef, undef, undef, undef, undef, undef, undef, undef, undef, undef, undef] (by kernel_rfl) rfl (by kernel_rfl)
  apply Stage.act 40 [6] rfl (by kernel_rfl) (by kernel_rfl)
  · refine FrontOk.cons (OpG.plain rfl (OpP.move (Val.of rfl))) ?_
    refine FrontOk.cons (OpG.plain rfl ((OpP.bin (Val.of rfl) (Val.of rfl) rfl).to (u := .bool true) rfl)) ?_
    refine FrontOk.cons (OpG.plain rfl (OpP.move (Val.of rfl))) ?_
    refine FrontOk.cons (OpG.yes rfl rfl rfl (OpP.move (Val.of rfl))) ?_
    refine FrontOk.cons (OpG.yes rfl rfl rfl (OpP.build inferInstance rfl rfl)) ?_
    refine FrontOk.cons (OpG.yes rfl rfl rfl (OpP.build inferInstance rfl rfl)) ?_
    refine FrontOk.skip rfl ?_
    refine FrontOk.skip rfl ?_
    refine FrontOk.skip rfl ?_
    refine FrontOk.skip rfl ?_
    refine FrontOk.skip rfl ?_
    refine FrontOk.skip rfl ?_
    refine FrontOk.skip rfl ?_
    refine FrontOk.skip rfl ?_
    refine FrontOk.skip rfl ?_
    refine FrontOk.skip rfl ?_
    refine FrontOk.skip rfl ?_
    refine FrontOk.skip rfl ?_
    refine FrontOk.skip rfl ?_
    refine FrontOk.skip rfl ?_
    refine FrontOk.skip rfl ?_
    refine FrontOk.skip rfl ?_
    refine FrontOk.skip rfl ?_
    refine FrontOk.skip rfl ?_
    refine FrontOk.skip rfl ?_
    refine FrontOk.skip rfl ?_
    refine FrontOk.skip rfl ?_
    refine FrontOk.skip rfl ?_
    refine FrontOk.skip rfl ?_
    refine FrontOk.skip rfl ?_
    refine FrontOk.skip rfl ?_
    refine FrontOk.skip rfl ?_
    refine FrontOk.skip rfl ?_
    refine FrontOk.skip rfl ?_
    refine FrontOk.skip rfl ?_
    refine FrontOk.skip rfl ?_
    refine FrontOk.skip rfl ?_
    refine FrontOk.skip rfl ?_
    refine FrontOk.skip rfl ?_
    refine FrontOk.skip rfl ?_
    exact FrontOk.nil
  refine all_cons ?_ all_nil
  refine ActOk.mk 40 [true, true, true, true, true, true, true, true, true, true, true, true, true, true, true, true, true, true, true, true, false, true, true, false, false, false, false, false, false, false, false, false, false, false, false, false, false, false, false, false] [false, false, false, false, false, false, true, false, false, false, false, false, false, false, false, false, false, false, false, false, false, false, false, false, false, false, false, false, false, false, false, false, false, false, false, false, false, false, false, false] rfl rfl rfl (OpXG.yes rfl rfl (OpXG.buildF inferInstance inferInstance inferInstance rfl rfl rfl rfl rfl rfl)) ?_
  intro v6 g6 L6 le6 hx6; obtain ⟨hL6, d6, hv6, is6⟩ := hx6; subst hL6 hv6
  have led := le6
  apply Stage.goto [_, _, _, _, _, _, _, _, _, _, _, _, _, _, _, _, _, _, _, _, undef, _, _, undef, undef, undef, undef, undef, undef, undef, undef, undef, undef, undef, undef, undef, undef, undef, undef, undef]
  · exact ⟨rfl, rfl, rfl, rfl, rfl, rfl, trivial⟩
  · rfl
  apply Stage.act 40 [20] rfl (by kernel_rfl) (by kernel_rfl)
  · refine FrontOk.cons (OpG.plain rfl (OpP.move (Val.of rfl))) ?_
    refine FrontOk.cons (OpG.plain rfl ((OpP.bin (Val.of rfl) (Val.of rfl) rfl).to (u := .bool true) rfl)) ?_
    refine FrontOk.cons (OpG.plain rfl (OpP.move (Val.of rfl))) ?_
    refine FrontOk.cons (OpG.yes rfl rfl rfl (OpP.move (Val.of rfl))) ?_
    refine FrontOk.cons (OpG.yes rfl rfl rfl (OpP.build inferInstance rfl rfl)) ?_
    refine FrontOk.cons (OpG.yes rfl rfl rfl (OpP.build inferInstance rfl rfl)) ?_
    refine FrontOk.done rfl ?_
    refine FrontOk.cons (OpG.yes rfl rfl rfl (OpP.call (by kernel_rfl) (.cons (Val.of rfl) (.cons (Val.of rfl) .nil)) (fun hA => by have hA7 : IsActs _ _ [actN 18 0, actN 0 4] := IsActs.ofCss (css := [actNC 18 0, actNC 0 4]) is6 (Reps.cons (actN_rep _ _) rfl (Reps.cons (actN_rep _ _) rfl Reps.nil)) (by simp); have hct := ref13_Same (hs2.mono led) hA7; rw [actsSame_refl] at hct; exact hct))) ?_
    refine FrontOk.cons (OpG.plain rfl (OpP.pick (Val.of rfl) (Val.of rfl) (Val.of rfl))) ?_
    refine FrontOk.cons (OpG.plain rfl (OpP.move (Val.of rfl))) ?_
    refine FrontOk.cons (OpG.yes rfl rfl rfl (OpP.move (Val.of rfl))) ?_
    refine FrontOk.cons (OpG.yes rfl rfl rfl ((OpP.bin (Val.of rfl) (Val.of rfl) rfl).to (u := .bool true) rfl)) ?_
    refine FrontOk.cons (OpG.plain rfl (OpP.pick (Val.of rfl) (Val.of rfl) (Val.of rfl))) ?_
    refine FrontOk.cons (OpG.plain rfl (OpP.move (Val.of rfl))) ?_
    refine FrontOk.cons (OpG.yes rfl rfl rfl (OpP.move (Val.of rfl))) ?_
    refine FrontOk.cons (OpG.yes rfl rfl rfl ((OpP.lenSl (Val.of rfl) inferInstance).to (u := i64v 3) (by rw [hn4]; rfl))) ?_
    refine FrontOk.cons (OpG.yes rfl rfl rfl (OpP.bin (Val.of rfl) (Val.of rfl) rfl)) ?_
    refine FrontOk.cons (OpG.plain rfl (OpP.pick (Val.of rfl) (Val.of rfl) (Val.of rfl))) ?_
    refine FrontOk.cons (OpG.plain rfl (OpP.move (Val.of rfl))) ?_
    refine FrontOk.cons (OpG.yes rfl rfl rfl (OpP.move (Val.of rfl))) ?_
    refine FrontOk.skip rfl ?_
    refine FrontOk.cons (OpG.yes rfl rfl rfl (OpP.move (Val.of rfl))) ?_
    refine FrontOk.cons (OpG.yes rfl rfl rfl (OpP.sliceHi (j := 2) (Val.of rfl) (Val.of rfl) (fun _ => by omega) inferInstance ⟨_, inferInstance⟩)) ?_
    refine FrontOk.skip rfl ?_
    refine FrontOk.skip rfl ?_
    refine FrontOk.skip rfl ?_
    refine FrontOk.skip rfl ?_
    refine FrontOk.skip rfl ?_
    refine FrontOk.skip rfl ?_
    refine FrontOk.skip rfl ?_
    refine FrontOk.skip rfl ?_
    refine FrontOk.skip rfl ?_
    refine FrontOk.skip rfl ?_
    refine FrontOk.skip rfl ?_
    refine FrontOk.skip rfl ?_
    refine FrontOk.skip rfl ?_
    refine FrontOk.skip rfl ?_
    refine FrontOk.skip rfl ?_
    refine FrontOk.skip rfl ?_
    refine FrontOk.skip rfl ?_
    exact FrontOk.nil
  refine all_cons ?_ all_nil
  refine ActOk.mk 40 [true, true, true, true, true, true, true, true, true, true, true, true, true, true, true, true, true, true, true, true, true, true, true, true, true, true, true, true, true, true, true, true, true, true, true, true, true, true, true, true] [false, false, false, false, false, false, true, false, false, false, false, false, false, false, false, false, false, false, false, false, true, false, false, false, false, false, false, false, false, false, false, false, false, false, false, false, false, false, false, false] rfl rfl rfl (OpXG.yes rfl rfl (OpXG.call (by kernel_rfl) rfl Take.nothing (by have hct := actset_Plan (hs4.mono led) (actsFew_small (by decide +kernel)); rw [law14_p] at hct; exact hct))) ?_
  rintro v20 h20 L20 hle20 ⟨N20, ⟨hN20, s20, hv20, hs20⟩, hL20⟩
  subst hN20 hv20 hL20
  have led0 := led
  replace led := led.trans hle20
  replace is6 := is6.mono hle20
  apply Stage.goto [_, _, _, _, _, _, _, _, _, _, _, _, _, _, _, _, _, _, _, _, _, _, _, _, _, _, _, _, _, _, _, _, _, _, _, _, _, _, _, _]
  · exact ⟨rfl, rfl, rfl, rfl, rfl, rfl, rfl, rfl, rfl, rfl, rfl, rfl, rfl, rfl, rfl, rfl, rfl, rfl, rfl, rfl, rfl, rfl, trivial⟩
  · rfl
  apply Stage.last 40 rfl (by kernel_rfl) rfl rfl
  · refine FrontOk.cons (OpG.plain rfl (OpP.move (Val.of rfl))) ?_
    refine FrontOk.cons (OpG.plain rfl ((OpP.bin (Val.of rfl) (Val.of rfl) rfl).to (u := .bool true) rfl)) ?_
    refine FrontOk.cons (OpG.plain rfl (OpP.move (Val.of rfl))) ?_
    refine FrontOk.cons (OpG.yes rfl rfl rfl (OpP.move (Val.of rfl))) ?_
    refine FrontOk.cons (OpG.yes rfl rfl rfl (OpP.build inferInstance rfl rfl)) ?_
    refine FrontOk.cons (OpG.yes rfl rfl rfl (OpP.build inferInstance rfl rfl)) ?_
    refine FrontOk.done rfl ?_
    refine FrontOk.cons (OpG.yes rfl rfl rfl (OpP.call (by kernel_rfl) (.cons (Val.of rfl) (.cons (Val.of rfl) .nil)) (fun hA => by have hA7 : IsActs _ _ [actN 18 0, actN 0 4] := IsActs.ofCss (css := [actNC 18 0, actNC 0 4]) is6 (Reps.cons (actN_rep _ _) rfl (Reps.cons (actN_rep _ _) rfl Reps.nil)) (by simp); have hct := ref13_Same (hs2.mono led) hA7; rw [actsSame_refl] at hct; exact hct))) ?_
    refine FrontOk.cons (OpG.plain rfl (OpP.pick (Val.of rfl) (Val.of rfl) (Val.of rfl))) ?_
    refine FrontOk.cons (OpG.plain rfl (OpP.move (Val.of rfl))) ?_
    refine FrontOk.cons (OpG.yes rfl rfl rfl (OpP.move (Val.of rfl))) ?_
    refine FrontOk.cons (OpG.yes rfl rfl rfl ((OpP.bin (Val.of rfl) (Val.of rfl) rfl).to (u := .bool true) rfl)) ?_
    refine FrontOk.cons (OpG.plain rfl (OpP.pick (Val.of rfl) (Val.of rfl) (Val.of rfl))) ?_
    refine FrontOk.cons (OpG.plain rfl (OpP.move (Val.of rfl))) ?_
    refine FrontOk.cons (OpG.yes rfl rfl rfl (OpP.move (Val.of rfl))) ?_
    refine FrontOk.cons (OpG.yes rfl rfl rfl ((OpP.lenSl (Val.of rfl) inferInstance).to (u := i64v 3) (by rw [hn4]; rfl))) ?_
    refine FrontOk.cons (OpG.yes rfl rfl rfl (OpP.bin (Val.of rfl) (Val.of rfl) rfl)) ?_
    refine FrontOk.cons (OpG.plain rfl (OpP.pick (Val.of rfl) (Val.of rfl) (Val.of rfl))) ?_
    refine FrontOk.cons (OpG.plain rfl (OpP.move (Val.of rfl))) ?_
    refine FrontOk.cons (OpG.yes rfl rfl rfl (OpP.move (Val.of rfl))) ?_
    refine FrontOk.done rfl ?_
    refine FrontOk.cons (OpG.yes rfl rfl rfl (OpP.move (Val.of rfl))) ?_
    refine FrontOk.cons (OpG.yes rfl rfl rfl (OpP.sliceHi (j := 2) (Val.of rfl) (Val.of rfl) (fun _ => by omega) inferInstance ⟨_, inferInstance⟩)) ?_
    refine FrontOk.cons (OpG.yes rfl rfl rfl (OpP.call (by kernel_rfl) (.cons (Val.of rfl) (.cons (Val.of rfl) .nil)) (fun hA => by have hct := ref13_Same hs20 ((hs4.mono led).take 2 (by simp)); rw [show [actN 18 0, actN 22 9, actN 0 4].take 2 = [actN 18 0, actN 22 9] from rfl, actsSame_refl] at hct; exact hct))) ?_
    refine FrontOk.cons (OpG.plain rfl (OpP.pick (Val.of rfl) (Val.of rfl) (Val.of rfl))) ?_
    refine FrontOk.cons (OpG.plain rfl (OpP.move (Val.of rfl))) ?_
    refine FrontOk.cons (OpG.yes rfl rfl rfl (OpP.move (Val.of rfl))) ?_
    refine FrontOk.cons (OpG.yes rfl rfl rfl (OpP.call (by kernel_rfl) (.cons (Val.of rfl) .nil) (fun hA => by have hct := actset_Drops (hs2.mono led); rw [law14_d1] at hct; exact hct))) ?_
    refine FrontOk.cons (OpG.yes rfl rfl rfl (OpP.not (Val.of rfl))) ?_
    refine FrontOk.cons (OpG.plain rfl (OpP.pick (Val.of rfl) (Val.of rfl) (Val.of rfl))) ?_
    refine FrontOk.cons (OpG.plain rfl (OpP.move (Val.of rfl))) ?_
    refine FrontOk.cons (OpG.yes rfl rfl rfl (OpP.move (Val.of rfl))) ?_
    refine FrontOk.cons (OpG.yes rfl rfl rfl (OpP.sliceHi (j := 1) (Val.of rfl) (Val.of rfl) (fun _ => by omega) inferInstance ⟨_, inferInstance⟩)) ?_
    refine FrontOk.cons (OpG.yes rfl rfl rfl (OpP.call (by kernel_rfl) (.cons (Val.of rfl) .nil) (fun hA => by have hct := actset_Drops ((hs2.mono led).take 1 (by simp)); rw [show [actN 18 0, actN 0 4].take 1 = [actN 18 0] from rfl, law14_d2] at hct; exact hct))) ?_
    refine FrontOk.cons (OpG.plain rfl (OpP.pick (Val.of rfl) (Val.of rfl) (Val.of rfl))) ?_
    refine FrontOk.cons (OpG.plain rfl (OpP.move (Val.of rfl))) ?_
    refine FrontOk.cons (OpG.yes rfl rfl rfl (OpP.move (Val.of rfl))) ?_
    refine FrontOk.cons (OpG.yes rfl rfl rfl ((OpP.bin (Val.of rfl) (Val.of rfl) rfl).to (u := .bool true) rfl)) ?_
    refine FrontOk.cons (OpG.plain rfl (OpP.pick (Val.of rfl) (Val.of rfl) (Val.of rfl))) ?_
    refine FrontOk.cons (OpG.plain rfl (OpP.assign (Val.of rfl))) ?_
    exact FrontOk.nil
  · rfl
  · rfl
  refine RunL.nil ?_
  refine RunQ.then_normal ?_
  refine Run.ret ?_
  refine RunQ.ret1 rfl rfl ?_
  rfl
end Go.Proofs.YtcckofgleghbgaaDoor
