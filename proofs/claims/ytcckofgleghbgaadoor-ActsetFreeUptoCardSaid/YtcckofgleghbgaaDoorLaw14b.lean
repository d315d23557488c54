/- Contracts: gunwalelaw14: ActsetTwice. -/
import Derived.Test.YtcckofgleghbgaaDoorLaw14
namespace Go.Proofs.YtcckofgleghbgaaDoor
open Go Sx
theorem Reps.allOne {h : GH} {l : List ActM} {css : List (List Value)} (hr : Reps 10 ActR h l css) : ∀ u ∈ css.flatten, u.oneCell' = true := by
  intro u hu
  obtain ⟨cs, h1, h2⟩ := List.mem_flatten.1 hu
  obtain ⟨j, hj, hje⟩ := List.getElem_of_mem h1
  have hjl : j < l.length := by rw [← hr.len]; exact hj
  exact (hr.rep j l[j] cs (by simp [hjl]) (by simp [hj, hje])).one u h2
theorem actsFew_facts {l : List ActM} (h : actsFew l = true) : l.all actFew = true ∧ l.length ≤ 80 := by
  unfold actsFew at h
  simp only [Bool.and_eq_true, decide_eq_true_eq] at h
  exact ⟨h.1, by omega⟩
theorem fold_small {l d : List ActM} (h1 : ∀ x ∈ l, ActSmall x) (h2 : ∀ x ∈ d, ActSmall x) : ∀ x ∈ setFold d l, ActSmall x := fun x hx => by
  rcases setFold_mem hx with h | h
  · exact h1 x h
  · exact h2 x h
theorem writes {set l : List ActM} (h1 : setRight set = true) (h2 : ∀ x ∈ l, actMay x = true) : setWrite set l = (setFold set l, 0) := by
  have h := (setWrite_iff set l).2 ⟨h1, h2⟩
  exact Prod.ext (setWrite_ok h) h
set_option maxHeartbeats 4000000 in
set_option maxRecDepth 100000 in
theorem law14_ActsetTwice {h : GH} {s s1 : Sl} {l m : List ActM} (hs : IsActs h s l) (hs1 : IsActs h s1 m) : Ctr Tryd.prog 4 [s.v, s1.v].toArray h [] fun r h' _ => r = .bool true := by
  have hn := hs.n
  have hn1 := hs1.n
  have hsm := hs.small
  have hsm1 := hs1.small
  refine Ctr.of_run Tryd.func4 rfl rfl rfl fun w0 => ?_
  refine Run.seq ?_
  refine Run.region' ?_
  refine RunL.pure rfl rfl (OpG.plain rfl (OpP.assign (Val.of rfl))) ?_
  refine RunL.nil ?_
  refine RunQ.then_normal ?_
  refine Run.seq ?_
  refine Run.seq ?_
  refine Run.region' ?_
  refine RunL.pure rfl rfl (OpG.plain rfl (OpP.move (Val.of rfl))) ?_
  refine RunL.pure rfl rfl (OpG.plain rfl (OpP.call (by kernel_rfl) (.cons (Val.of rfl) .nil) (fun hA => by first | (have hct := ref13_Few hs; exact hct) | exact ref13_Few hs))) ?_
  refine RunL.pure rfl rfl (OpG.plain rfl (OpP.not (Val.of rfl))) ?_
  refine RunL.pure rfl rfl (OpG.plain rfl (OpP.move (Val.of rfl))) ?_
  refine RunL.pure rfl rfl (OpG.onF rfl rfl rfl (OpP.move (Val.of rfl))) ?_
  refine RunL.pure rfl rfl (OpG.onF rfl rfl rfl (OpP.call (by kernel_rfl) (.cons (Val.lz rfl) .nil) (fun hA => by first | (have hct := ref13_Few hs1; exact hct) | exact ref13_Few hs1))) ?_
  refine RunL.pure rfl rfl (OpG.onF rfl rfl rfl (OpP.not (Val.lz rfl))) ?_
  refine RunL.pure rfl rfl (OpG.plain rfl (OpP.pick_or rfl rfl rfl)) ?_
  refine RunL.nil ?_
  refine RunQ.then_normal ?_
  refine Run.cond rfl (fun hc0 => ?_) (fun hc0 => ?_)
  · refine Run.seq ?_
    refine Run.region' ?_
    refine RunL.pure rfl rfl (OpG.plain rfl (OpP.call (by kernel_rfl) .nil (fun hA => by first | (have hct := law14_sure; exact hct) | exact law14_sure))) ?_
    refine RunL.pure rfl rfl (OpG.plain rfl (OpP.assign (Val.of rfl))) ?_
    refine RunL.nil ?_
    refine RunQ.then_normal ?_
    refine Run.ret ?_
    refine RunQ.then_ret ?_
    refine RunQ.ret1 rfl rfl ?_
    rfl
  · have h0 : (!actsFew l || !actsFew m) = false := hc0
    simp only [Bool.or_eq_false_iff, Bool.not_eq_false'] at h0
    obtain ⟨hlf, hl80⟩ := actsFew_facts h0.1
    obtain ⟨hmf, hm80⟩ := actsFew_facts h0.2
    have hlS := actsFew_small hlf
    have hmS := actsFew_small hmf
    refine Run.skip ?_
    refine RunQ.then_normal ?_
    refine Run.seq ?_
    refine Run.region' ?_
    refine RunL.pure rfl rfl (OpG.plain rfl (OpP.move (Val.of rfl))) ?_
    have hct := actset_Write (set := []) IsActs.nil hs (by simp) hlS (by simp; omega)
    refine RunL.call rfl (by kernel_rfl) rfl Take.nothing hct (fun v h2 N2 hle2 hx2 => ?_)
    obtain ⟨hN2, s2, hv2, hs2⟩ := hx2
    subst hN2 hv2
    replace hs := hs.mono hle2
    replace hs1 := hs1.mono hle2
    refine RunL.pure rfl rfl (OpG.plain rfl (OpP.move (Val.of rfl))) ?_
    refine RunL.pure rfl rfl (OpG.plain rfl (OpP.extract (Val.of rfl) rfl)) ?_
    refine RunL.pure rfl rfl (OpG.plain rfl (OpP.extract (Val.of rfl) rfl)) ?_
    refine RunL.pure rfl rfl (OpG.plain rfl (OpP.assign (Val.of rfl))) ?_
    refine RunL.pure rfl rfl (OpG.plain rfl (OpP.assign (Val.of rfl))) ?_
    refine RunL.nil ?_
    refine RunQ.then_normal ?_
    refine Run.seq ?_
    refine Run.region' ?_
    refine RunL.pure rfl rfl (OpG.plain rfl (OpP.move (Val.of rfl))) ?_
    have hct := actset_Write (set := []) IsActs.nil hs1 (by simp) hmS (by simp; omega)
    refine RunL.call rfl (by kernel_rfl) rfl Take.nothing hct (fun v h3 N3 hle3 hx3 => ?_)
    obtain ⟨hN3, s3, hv3, hs3⟩ := hx3
    subst hN3 hv3
    replace hs := hs.mono hle3
    replace hs1 := hs1.mono hle3
    replace hs2 := hs2.mono hle3
    have hn2 := hs2.n
    have hn3 := hs3.n
    refine RunL.pure rfl rfl (OpG.plain rfl (OpP.move (Val.of rfl))) ?_
    refine RunL.pure rfl rfl (OpG.plain rfl (OpP.extract (Val.of rfl) rfl)) ?_
    refine RunL.pure rfl rfl (OpG.plain rfl (OpP.extract (Val.of rfl) rfl)) ?_
    refine RunL.pure rfl rfl (OpG.plain rfl (OpP.assign (Val.of rfl))) ?_
    refine RunL.pure rfl rfl (OpG.plain rfl (OpP.assign (Val.of rfl))) ?_
    refine RunL.nil ?_
    refine RunQ.then_normal ?_
    refine Run.seq ?_
    refine Run.seq ?_
    refine Run.region' ?_
    refine RunL.pure rfl rfl (OpG.plain rfl (OpP.move (Val.of rfl))) ?_
    refine RunL.pure rfl rfl (OpG.plain rfl (OpP.bin (Val.of rfl) (Val.of rfl) rfl)) ?_
    refine RunL.pure rfl rfl (OpG.plain rfl (OpP.move (Val.of rfl))) ?_
    refine RunL.pure rfl rfl (OpG.onF rfl rfl rfl (OpP.move (Val.of rfl))) ?_
    refine RunL.pure rfl rfl (OpG.onF rfl rfl rfl (OpP.bin (Val.lz rfl) (Val.of rfl) rfl)) ?_
    refine RunL.pure rfl rfl (OpG.plain rfl (OpP.pick_or rfl rfl rfl)) ?_
    refine RunL.nil ?_
    refine RunQ.then_normal ?_
    refine Run.cond rfl (fun hc1 => ?_) (fun hc1 => ?_)
    · refine Run.seq ?_
      refine Run.region' ?_
      refine RunL.pure rfl rfl (OpG.plain rfl (OpP.move (Val.of rfl))) ?_
      refine RunL.pure rfl rfl (OpG.plain rfl (OpP.bin (Val.of rfl) (Val.of rfl) rfl)) ?_
      refine RunL.pure rfl rfl (OpG.plain rfl (OpP.move (Val.of rfl))) ?_
      refine RunL.pure rfl rfl (OpG.onF rfl rfl rfl (OpP.move (Val.of rfl))) ?_
      refine RunL.pure rfl rfl (OpG.onF rfl rfl rfl (OpP.lenSl (Val.lz rfl) inferInstance)) ?_
      refine RunL.pure rfl rfl (OpG.onF rfl rfl rfl (OpP.bin (Val.lz rfl) (Val.of rfl) rfl)) ?_
      refine RunL.pure rfl rfl (OpG.plain rfl (OpP.pick_or rfl rfl rfl)) ?_
      refine RunL.pure rfl rfl (OpG.plain rfl (OpP.move (Val.of rfl))) ?_
      refine RunL.pure rfl rfl (OpG.onT rfl rfl rfl (OpP.move (Val.of rfl))) ?_
      refine RunL.pure rfl rfl (OpG.onT rfl rfl rfl (OpP.bin (Val.lz rfl) (Val.of rfl) rfl)) ?_
      refine RunL.pure rfl rfl (OpG.onT rfl rfl rfl (OpP.move (Val.lz rfl))) ?_
      refine RunL.pure rfl rfl (OpG.onF' rfl rfl rfl (OpP.move (Val.of rfl))) ?_
      refine RunL.pure rfl rfl (OpG.onF' rfl rfl rfl (OpP.lenSl (Val.lz rfl) inferInstance)) ?_
      refine RunL.pure rfl rfl (OpG.onF' rfl rfl rfl (OpP.bin (Val.lz rfl) (Val.of rfl) rfl)) ?_
      refine RunL.pure rfl rfl (OpG.onT rfl rfl rfl (OpP.pick_or' rfl rfl rfl)) ?_
      refine RunL.pure rfl rfl (OpG.plain rfl (OpP.pick_and rfl rfl rfl)) ?_
      refine RunL.pure rfl rfl (OpG.plain rfl (OpP.move (Val.of rfl))) ?_
      refine RunL.pure rfl rfl (OpG.onT rfl rfl rfl (OpP.call (by kernel_rfl) .nil (fun hA => by first | (have hct := law14_sure; exact hct) | exact law14_sure))) ?_
      refine RunL.pure rfl rfl (OpG.plain rfl (OpP.pick_and rfl rfl rfl)) ?_
      refine RunL.pure rfl rfl (OpG.plain rfl (OpP.assign (Val.of rfl))) ?_
      refine RunL.nil ?_
      refine RunQ.then_normal ?_
      refine Run.ret ?_
      refine RunQ.then_ret ?_
      refine RunQ.ret1 rfl rfl ?_
      have h5 : ((setWrite [] l).2 == 0 || ((s2.n : Int) == 0)) = true := by
        by_cases he : (setWrite [] l).2 = 0
        · simp [he]
        · rw [setWrite_bad he] at hn2; simp [hn2]
      have h6 : ((setWrite [] m).2 == 0 || ((s3.n : Int) == 0)) = true := by
        by_cases he : (setWrite [] m).2 = 0
        · simp [he]
        · rw [setWrite_bad he] at hn3; simp [hn3]
      show Value.bool ((((setWrite [] l).2 == 0 || ((s2.n : Int) == 0)) && ((setWrite [] m).2 == 0 || ((s3.n : Int) == 0))) && true) = _
      rw [h5, h6]; rfl
    · have h1 : ((setWrite [] l).2 != 0 || (setWrite [] m).2 != 0) = false := hc1
      simp only [Bool.or_eq_false_iff, bne_eq_false_iff_eq] at h1
      obtain ⟨he, hf⟩ := h1
      have hlM := ((setWrite_iff [] l).1 he).2
      have hmM := ((setWrite_iff [] m).1 hf).2
      rw [setWrite_ok he] at hs2 hn2
      rw [setWrite_ok hf] at hs3 hn3
      have hxR := setFold_right setRight_nil hlM
      have hyR := setFold_right setRight_nil hmM
      have hyM := ((setRight_iff _).1 hyR).1
      have hxS := fold_small hlS (d := []) (by simp)
      have hyS := fold_small hmS (d := []) (by simp)
      have hxL : (setFold [] l).length ≤ l.length := by have := setFold_length l []; simpa [setFold] using this
      have hyL : (setFold [] m).length ≤ m.length := by have := setFold_length m []; simpa [setFold] using this
      have haR := setFold_right hxR hmM
      have haS := fold_small hmS hxS
      have haL : (setFold (setFold [] l) m).length ≤ l.length + m.length := by have := setFold_length m (setFold [] l); unfold setFold at this hxL ⊢; omega
      obtain ⟨e1, e2, e3⟩ := set_twice hlM hmM
      refine Run.skip ?_
      refine RunQ.then_normal ?_
      refine Run.seq ?_
      refine Run.region' ?_
      refine RunL.pure rfl rfl (OpG.plain rfl (OpP.move (Val.of rfl))) ?_
      refine RunL.pure rfl rfl (OpG.plain rfl (OpP.move (Val.of rfl))) ?_
      have hct := actset_Write hs2 hs1 hxS hmS (by omega)
      rw [writes hxR hmM] at hct
      refine RunL.call rfl (by kernel_rfl) rfl Take.nothing hct (fun v h4 N4 hle4 hx4 => ?_)
      obtain ⟨hN4, s4, hv4, hs4⟩ := hx4
      subst hN4 hv4
      replace hs := hs.mono hle4
      replace hs1 := hs1.mono hle4
      replace hs2 := hs2.mono hle4
      replace hs3 := hs3.mono hle4
      refine RunL.pure rfl rfl (OpG.plain rfl (OpP.move (Val.of rfl))) ?_
      refine RunL.pure rfl rfl (OpG.plain rfl (OpP.extract (Val.of rfl) rfl)) ?_
      refine RunL.pure rfl rfl (OpG.plain rfl (OpP.extract (Val.of rfl) rfl)) ?_
      refine RunL.pure rfl rfl (OpG.plain rfl (OpP.assign (Val.of rfl))) ?_
      refine RunL.pure rfl rfl (OpG.plain rfl (OpP.assign (Val.of rfl))) ?_
      refine RunL.nil ?_
      refine RunQ.then_normal ?_
      refine Run.seq ?_
      refine Run.region' ?_
      refine RunL.buildSlice inferInstance inferInstance inferInstance rfl rfl rfl rfl rfl rfl fun b1 => ?_
      refine RunL.pure rfl rfl (OpG.plain rfl (OpP.move (Val.of rfl))) ?_
      obtain ⟨cssl, hsl, hrl⟩ := hs.rep.reps
      obtain ⟨cssm, hslm, hrm⟩ := hs1.rep.reps
      refine RunL.append inferInstance inferInstance inferInstance inferInstance (s := ⟨some ⟨b1, 0, none⟩, 0, 0⟩) (r := s) rfl rfl rfl (OwnSl.built (m := 0) rfl (by simp [maxLen])) Take.whole (SrcAt.ghost hsl) hrl.allOne (by simp [maxLen]; omega) (by simp; omega) rfl rfl fun s5 N5 hn5 ho5 => ?_
      refine RunL.pure rfl rfl (OpG.plain rfl (OpP.move (Val.of rfl))) ?_
      refine RunL.append inferInstance inferInstance inferInstance inferInstance (s := s5) (r := s1) rfl rfl rfl ho5 Take.here (SrcAt.ghost hslm) hrm.allOne (by rw [hn5]; simp [maxLen]; omega) (by rw [hn5]; simp; omega) rfl rfl fun s6 N6 hn6 ho6 => ?_
      refine RunL.freezeSl ho6 Take.here fun h5 hle5 hs5 => ?_
      have hs6 : IsActs h5 s6 (l ++ m) := .ofCss (css := cssl ++ cssm) (by simpa using hs5) ((hrl.append hrm).mono fun _ _ hr => hr.mono hle5) (by simp; omega)
      replace hs1 := hs1.mono hle5
      replace hs2 := hs2.mono hle5
      replace hs3 := hs3.mono hle5
      replace hs4 := hs4.mono hle5
      have hct := actset_Write (set := []) IsActs.nil hs6 (by simp) (fun x hx => (List.mem_append.1 hx).elim (hlS x) (hmS x)) (by simp; omega)
      rw [writes setRight_nil (fun x hx => (List.mem_append.1 hx).elim (hlM x) (hmM x)), e1] at hct
      refine RunL.call rfl (by kernel_rfl) rfl Take.nothing hct (fun v h6 N7 hle6 hx6 => ?_)
      obtain ⟨hN7, s7, hv7, hs7⟩ := hx6
      subst hN7 hv7
      replace hs1 := hs1.mono hle6
      replace hs2 := hs2.mono hle6
      replace hs3 := hs3.mono hle6
      replace hs4 := hs4.mono hle6
      refine RunL.pure rfl rfl (OpG.plain rfl (OpP.move (Val.of rfl))) ?_
      refine RunL.pure rfl rfl (OpG.plain rfl (OpP.extract (Val.of rfl) rfl)) ?_
      refine RunL.pure rfl rfl (OpG.plain rfl (OpP.extract (Val.of rfl) rfl)) ?_
      refine RunL.pure rfl rfl (OpG.plain rfl (OpP.assign (Val.of rfl))) ?_
      refine RunL.pure rfl rfl (OpG.plain rfl (OpP.assign (Val.of rfl))) ?_
      refine RunL.nil ?_
      refine RunQ.then_normal ?_
      refine Run.seq ?_
      refine Run.region' ?_
      refine RunL.pure rfl rfl (OpG.plain rfl (OpP.move (Val.of rfl))) ?_
      refine RunL.pure rfl rfl (OpG.plain rfl (OpP.move (Val.of rfl))) ?_
      have hct := actset_Write hs4 hs1 haS hmS (by simp only; omega)
      rw [writes haR hmM, e2] at hct
      refine RunL.call rfl (by kernel_rfl) rfl Take.nothing hct (fun v h7 N8 hle7 hx7 => ?_)
      obtain ⟨hN8, s8, hv8, hs8⟩ := hx7
      subst hN8 hv8
      replace hs1 := hs1.mono hle7
      replace hs2 := hs2.mono hle7
      replace hs3 := hs3.mono hle7
      replace hs4 := hs4.mono hle7
      replace hs7 := hs7.mono hle7
      refine RunL.pure rfl rfl (OpG.plain rfl (OpP.move (Val.of rfl))) ?_
      refine RunL.pure rfl rfl (OpG.plain rfl (OpP.extract (Val.of rfl) rfl)) ?_
      refine RunL.pure rfl rfl (OpG.plain rfl (OpP.extract (Val.of rfl) rfl)) ?_
      refine RunL.pure rfl rfl (OpG.plain rfl (OpP.assign (Val.of rfl))) ?_
      refine RunL.pure rfl rfl (OpG.plain rfl (OpP.assign (Val.of rfl))) ?_
      refine RunL.nil ?_
      refine RunQ.then_normal ?_
      refine Run.seq ?_
      refine Run.region' ?_
      refine RunL.pure rfl rfl (OpG.plain rfl (OpP.move (Val.of rfl))) ?_
      refine RunL.pure rfl rfl (OpG.plain rfl (OpP.move (Val.of rfl))) ?_
      have hct := actset_Write hs2 hs3 hxS hyS (by omega)
      rw [writes hxR hyM, e3] at hct
      refine RunL.call rfl (by kernel_rfl) rfl Take.nothing hct (fun v h8 N9 hle8 hx8 => ?_)
      obtain ⟨hN9, s9, hv9, hs9⟩ := hx8
      subst hN9 hv9
      replace hs1 := hs1.mono hle8
      replace hs4 := hs4.mono hle8
      replace hs7 := hs7.mono hle8
      replace hs8 := hs8.mono hle8
      refine RunL.pure rfl rfl (OpG.plain rfl (OpP.move (Val.of rfl))) ?_
      refine RunL.pure rfl rfl (OpG.plain rfl (OpP.extract (Val.of rfl) rfl)) ?_
      refine RunL.pure rfl rfl (OpG.plain rfl (OpP.extract (Val.of rfl) rfl)) ?_
      refine RunL.pure rfl rfl (OpG.plain rfl (OpP.assign (Val.of rfl))) ?_
      refine RunL.pure rfl rfl (OpG.plain rfl (OpP.assign (Val.of rfl))) ?_
      refine RunL.nil ?_
      refine RunQ.then_normal ?_
      refine Run.seq ?_
      refine Run.seq ?_
      refine Run.region' ?_
      refine RunL.pure rfl rfl (OpG.plain rfl (OpP.move (Val.of rfl))) ?_
      refine RunL.pure rfl rfl (OpG.plain rfl (OpP.bin (Val.of rfl) (Val.of rfl) rfl)) ?_
      refine RunL.pure rfl rfl (OpG.plain rfl (OpP.move (Val.of rfl))) ?_
      refine RunL.pure rfl rfl (OpG.onF rfl rfl rfl (OpP.move (Val.of rfl))) ?_
      refine RunL.pure rfl rfl (OpG.onF rfl rfl rfl (OpP.bin (Val.lz rfl) (Val.of rfl) rfl)) ?_
      refine RunL.pure rfl rfl (OpG.plain rfl (OpP.pick_or rfl rfl rfl)) ?_
      refine RunL.pure rfl rfl (OpG.plain rfl (OpP.move (Val.of rfl))) ?_
      refine RunL.pure rfl rfl (OpG.onF rfl rfl rfl (OpP.move (Val.of rfl))) ?_
      refine RunL.pure rfl rfl (OpG.onF rfl rfl rfl (OpP.bin (Val.lz rfl) (Val.of rfl) rfl)) ?_
      refine RunL.pure rfl rfl (OpG.plain rfl (OpP.pick_or rfl rfl rfl)) ?_
      refine RunL.pure rfl rfl (OpG.plain rfl (OpP.move (Val.of rfl))) ?_
      refine RunL.pure rfl rfl (OpG.onF rfl rfl rfl (OpP.move (Val.of rfl))) ?_
      refine RunL.pure rfl rfl (OpG.onF rfl rfl rfl (OpP.bin (Val.lz rfl) (Val.of rfl) rfl)) ?_
      refine RunL.pure rfl rfl (OpG.plain rfl (OpP.pick_or rfl rfl rfl)) ?_
      refine RunL.pure rfl rfl (OpG.plain rfl (OpP.move (Val.of rfl))) ?_
      refine RunL.pure rfl rfl (OpG.onF rfl rfl rfl (OpP.move (Val.of rfl))) ?_
      refine RunL.pure rfl rfl (OpG.onF rfl rfl rfl (OpP.move (Val.of rfl))) ?_
      refine RunL.pure rfl rfl (OpG.onF rfl rfl rfl (OpP.call (by kernel_rfl) (.cons (Val.lz rfl) (.cons (Val.lz rfl) .nil)) (fun hA => by have hct := ref13_Same hs4 hs7; rw [actsSame_refl] at hct; exact hct))) ?_
      refine RunL.pure rfl rfl (OpG.onF rfl rfl rfl (OpP.not (Val.lz rfl))) ?_
      refine RunL.pure rfl rfl (OpG.plain rfl (OpP.pick_or rfl rfl rfl)) ?_
      refine RunL.pure rfl rfl (OpG.plain rfl (OpP.move (Val.of rfl))) ?_
      refine RunL.pure rfl rfl (OpG.onF rfl rfl rfl (OpP.move (Val.of rfl))) ?_
      refine RunL.pure rfl rfl (OpG.onF rfl rfl rfl (OpP.move (Val.of rfl))) ?_
      refine RunL.pure rfl rfl (OpG.onF rfl rfl rfl (OpP.call (by kernel_rfl) (.cons (Val.lz rfl) (.cons (Val.lz rfl) .nil)) (fun hA => by have hct := ref13_Same hs4 hs8; rw [actsSame_refl] at hct; exact hct))) ?_
      refine RunL.pure rfl rfl (OpG.onF rfl rfl rfl (OpP.not (Val.lz rfl))) ?_
      refine RunL.pure rfl rfl (OpG.plain rfl (OpP.pick_or rfl rfl rfl)) ?_
      refine RunL.pure rfl rfl (OpG.plain rfl (OpP.move (Val.of rfl))) ?_
      refine RunL.pure rfl rfl (OpG.onF rfl rfl rfl (OpP.move (Val.of rfl))) ?_
      refine RunL.pure rfl rfl (OpG.onF rfl rfl rfl (OpP.move (Val.of rfl))) ?_
      refine RunL.pure rfl rfl (OpG.onF rfl rfl rfl (OpP.call (by kernel_rfl) (.cons (Val.lz rfl) (.cons (Val.lz rfl) .nil)) (fun hA => by have hct := ref13_Same hs4 hs9; rw [actsSame_refl] at hct; exact hct))) ?_
      refine RunL.pure rfl rfl (OpG.onF rfl rfl rfl (OpP.not (Val.lz rfl))) ?_
      refine RunL.pure rfl rfl (OpG.plain rfl (OpP.pick_or rfl rfl rfl)) ?_
      refine RunL.nil ?_
      refine RunQ.then_normal ?_
      refine Run.cond_false rfl ?_
      refine Run.skip ?_
      refine RunQ.then_normal ?_
      refine Run.seq ?_
      refine Run.seq ?_
      refine Run.region' ?_
      refine RunL.pure rfl rfl (OpG.plain rfl (OpP.move (Val.of rfl))) ?_
      refine RunL.pure rfl rfl (OpG.plain rfl (OpP.lenSl (Val.of rfl) inferInstance)) ?_
      refine RunL.pure rfl rfl (OpG.plain rfl (OpP.bin (Val.of rfl) (Val.of rfl) rfl)) ?_
      refine RunL.nil ?_
      refine RunQ.then_normal ?_
      refine Run.cond rfl (fun hc3 => ?_) (fun hc3 => ?_)
      · have hpos : 0 < m.length := by simp only [decide_eq_true_eq] at hc3; omega
        have hne : m ≠ [] := by intro e; subst e; simp at hpos
        have hn4 := hs4.n
        obtain ⟨css4, hsl4, _⟩ := hs4.rep.reps
        obtain ⟨css1, hsl1, _⟩ := hs1.rep.reps
        have hc4 := hsl4.le
        have hc1' := hsl1.le
        simp only at hn4
        have hlast : (m.drop (m.length - 1)).take (s1.n - (m.length - 1)) = [m.getLast hne] := by
          rw [List.drop_eq_getElem_cons (show m.length - 1 < m.length by omega), List.drop_eq_nil_of_le (by omega), List.getLast_eq_getElem, List.take_of_length_le (by simp; omega)]
        have hin : m.getLast hne ∈ setFold (setFold [] l) m := by
          have h1 := set_last (d := setFold [] l) (m := m.dropLast) (x := m.getLast hne) ((setRight_iff _).1 hxR).2
          rw [List.dropLast_concat_getLast hne] at h1
          exact h1
        refine Run.seq ?_
        refine Run.region' ?_
        refine RunL.pure rfl rfl (OpG.plain rfl (OpP.assign (Val.of rfl))) ?_
        refine RunL.nil ?_
        refine RunQ.then_normal ?_
        refine Run.seq ?_
        refine Run.seq ?_
        refine Run.region' ?_
        refine RunL.pure rfl rfl (OpG.plain rfl (OpP.assign (Val.of rfl))) ?_
        refine RunL.nil ?_
        refine RunQ.then_normal ?_
        refine Run.block ?_
        refine Run.loopT (fun q E h' L' => ∃ k : Nat, k ≤ (setFold (setFold [] l) m).length ∧ q = (setFold (setFold [] l) m).length - k ∧ h' = h8 ∧ L' = [] ∧ E = [(0, s.v), (1, s1.v), (9, s4.v), (18, i64v (k : Int)), (17, .bool (((setFold (setFold [] l) m).take k).any fun y => actsSame [y] [m.getLast hne]))]) (setFold (setFold [] l) m).length ⟨0, Nat.zero_le _, rfl, rfl, rfl, rfl⟩ ⟨rfl, rfl, rfl, rfl, rfl, trivial⟩ Take.nothing ?_
        rintro q E1 h9 L1 ⟨k, hk, rfl, rfl, rfl, rfl⟩
        refine Run.seq ?_
        refine Run.seq ?_
        refine Run.region' ?_
        refine RunL.pure rfl rfl (OpG.plain rfl (OpP.move (Val.of rfl))) ?_
        refine RunL.pure rfl rfl (OpG.plain rfl (OpP.move (Val.of rfl))) ?_
        refine RunL.pure rfl rfl (OpG.plain rfl (OpP.lenSl (Val.of rfl) inferInstance)) ?_
        refine RunL.pure rfl rfl (OpG.plain rfl (OpP.bin (Val.of rfl) (Val.of rfl) rfl)) ?_
        refine RunL.nil ?_
        refine RunQ.then_normal ?_
        refine Run.cond rfl (fun hc4 => ?_) (fun hc4 => ?_)
        · have hlt : k < (setFold (setFold [] l) m).length := by simp only [decide_eq_true_eq] at hc4; omega
          refine Run.skip ?_
          refine RunQ.then_normal ?_
          refine Run.seq ?_
          refine Run.block ?_
          apply Run.drawn 15 [_, _, _, _, _, _, _, _, _, _, _, _, _, _, _] (by kernel_rfl) rfl (by kernel_rfl)
          · refine FrontOk.cons (OpG.plain rfl (OpP.move (Val.of rfl))) ?_
            refine FrontOk.cons (OpG.plain rfl (OpP.move (Val.of rfl))) ?_
            refine FrontOk.cons (OpG.onF rfl rfl rfl (OpP.move (Val.of rfl))) ?_
            refine FrontOk.cons (OpG.onF rfl rfl rfl (OpP.move (Val.of rfl))) ?_
            refine FrontOk.cons (OpG.onF rfl rfl rfl (OpP.move (Val.of rfl))) ?_
            refine FrontOk.cons (OpG.onF rfl rfl rfl ((OpP.add64 (Val.lz rfl) (Val.of rfl) (by omega) (by omega)).to (u := i64v ((k + 1 : Nat) : Int)) (by congr 1))) ?_
            refine FrontOk.cons (OpG.onF rfl rfl rfl (OpP.sliceLH (i := k) (j := k + 1) (Val.lz rfl) (Val.lz rfl) (Val.lz rfl) (fun _ => by omega) (fun _ => by omega) inferInstance inferInstance)) ?_
            refine FrontOk.cons (OpG.onF rfl rfl rfl (OpP.move (Val.of rfl))) ?_
            refine FrontOk.cons (OpG.onF rfl rfl rfl (OpP.move (Val.of rfl))) ?_
            refine FrontOk.cons (OpG.onF rfl rfl rfl (OpP.lenSl (Val.lz rfl) inferInstance)) ?_
            refine FrontOk.cons (OpG.onF rfl rfl rfl ((OpP.sub64 (Val.lz rfl) (Val.of rfl) (by omega) (by omega)).to (u := i64v ((m.length - 1 : Nat) : Int)) (by congr 1; omega))) ?_
            refine FrontOk.cons (OpG.onF rfl rfl rfl (OpP.sliceLo (i := m.length - 1) (Val.lz rfl) (Val.lz rfl) (fun _ => by omega) inferInstance inferInstance)) ?_
            refine FrontOk.cons (OpG.onF rfl rfl rfl (OpP.call (by kernel_rfl) (.cons (Val.lz rfl) (.cons (Val.lz rfl) .nil)) (fun hA => by first | (have hct := ref13_Same (hs4.cut k (k + 1) (by omega) (by simp only; omega)) (hs1.cut (m.length - 1) s1.n (by omega) (by omega)); exact hct) | exact ref13_Same (hs4.cut k (k + 1) (by omega) (by simp only; omega)) (hs1.cut (m.length - 1) s1.n (by omega) (by omega))))) ?_
            refine FrontOk.cons (OpG.plain rfl (OpP.pick_or rfl rfl rfl)) ?_
            refine FrontOk.cons (OpG.plain rfl (OpP.assign (Val.of rfl))) ?_
            exact FrontOk.nil
          · rfl
          · rfl
          refine RunL.nil ?_
          refine RunQ.block_normal ?_
          refine RunQ.then_normal ?_
          refine Run.region' ?_
          refine RunL.pure rfl rfl (OpG.plain rfl (OpP.move (Val.of rfl))) ?_
          refine RunL.pure rfl rfl (OpG.plain rfl (by first | exact OpP.add64 (Val.of rfl) (Val.of rfl) (by omega) (by omega) | exact OpP.bin (Val.of rfl) (Val.of rfl) rfl)) ?_
          refine RunL.pure rfl rfl (OpG.plain rfl (OpP.assign (Val.of rfl))) ?_
          refine RunL.nil ?_
          refine RunQ.againT ((setFold (setFold [] l) m).length - (k + 1)) (by omega) ⟨k + 1, by omega, rfl, rfl, rfl, rfl⟩ ⟨rfl, rfl, rfl, rfl, ?_, trivial⟩ Take.whole
          have e5 : ((setFold (setFold [] l) m).drop k).take (k + 1 - k) = [(setFold (setFold [] l) m)[k]] := by
            rw [Nat.add_sub_cancel_left, List.drop_eq_getElem_cons hlt]; rfl
          rw [hlast, e5, List.take_succ_eq_append_getElem hlt, List.any_append]
          simp only [List.any_cons, List.any_nil, Bool.or_false]
          rfl
        · have hge : k = (setFold (setFold [] l) m).length := by simp only [decide_eq_false_iff_not] at hc4; omega
          refine Run.exit ?_
          refine RunQ.then_exit ?_
          refine RunQ.then_exit ?_
          refine RunQ.block_exit ?_
          refine RunQ.then_normal ?_
          refine Run.seq ?_
          refine Run.region' ?_
          refine RunL.pure rfl rfl (OpG.plain rfl (OpP.move (Val.of rfl))) ?_
          refine RunL.pure rfl rfl (OpG.plain rfl (OpP.not (Val.of rfl))) ?_
          refine RunL.nil ?_
          refine RunQ.then_normal ?_
          refine Run.cond rfl (fun hc5 => ?_) (fun hc5 => ?_)
          · exfalso
            have h5 : (!(((setFold (setFold [] l) m).take k).any fun y => actsSame [y] [m.getLast hne])) = true := hc5
            rw [hge, List.take_length] at h5
            have h6 : ((setFold (setFold [] l) m).any fun y => actsSame [y] [m.getLast hne]) = true := List.any_eq_true.2 ⟨_, hin, actsSame_refl _⟩
            rw [h6] at h5
            cases h5 
          · refine Run.skip ?_
            refine RunQ.then_normal ?_
            refine Run.seq ?_
            refine Run.region' ?_
            refine RunL.pure rfl rfl (OpG.plain rfl (OpP.move (Val.of rfl))) ?_
            refine RunL.pure rfl rfl (OpG.plain rfl (OpP.call (by kernel_rfl) (.cons (Val.of rfl) .nil) (fun hA => by have hct := actset_Right hs4; rw [haR] at hct; exact hct))) ?_
            refine RunL.pure rfl rfl (OpG.plain rfl (OpP.move (Val.of rfl))) ?_
            refine RunL.pure rfl rfl (OpG.onT rfl rfl rfl (OpP.move (Val.of rfl))) ?_
            refine RunL.pure rfl rfl (OpG.onT rfl rfl rfl (OpP.lenSl (Val.lz rfl) inferInstance)) ?_
            refine RunL.pure rfl rfl (OpG.onT rfl rfl rfl (OpP.bin (Val.lz rfl) (Val.of rfl) rfl)) ?_
            refine RunL.pure rfl rfl (OpG.plain rfl (OpP.pick_and rfl rfl rfl)) ?_
            refine RunL.pure rfl rfl (OpG.plain rfl (OpP.move (Val.of rfl))) ?_
            refine RunL.pure rfl rfl (OpG.onT rfl rfl rfl (OpP.move (Val.of rfl))) ?_
            refine RunL.pure rfl rfl (OpG.onT rfl rfl rfl (OpP.lenSl (Val.lz rfl) inferInstance)) ?_
            refine RunL.pure rfl rfl (OpG.onT rfl rfl rfl (OpP.move (Val.of rfl))) ?_
            refine RunL.pure rfl rfl (OpG.onT rfl rfl rfl (OpP.lenSl (Val.lz rfl) inferInstance)) ?_
            refine RunL.pure rfl rfl (OpG.onT rfl rfl rfl (OpP.move (Val.of rfl))) ?_
            refine RunL.pure rfl rfl (OpG.onT rfl rfl rfl (OpP.lenSl (Val.lz rfl) inferInstance)) ?_
            refine RunL.pure rfl rfl (OpG.onT rfl rfl rfl (by first | exact OpP.add64 (Val.lz rfl) (Val.lz rfl) (by omega) (by omega) | exact OpP.bin (Val.lz rfl) (Val.lz rfl) rfl)) ?_
            refine RunL.pure rfl rfl (OpG.onT rfl rfl rfl (OpP.bin (Val.lz rfl) (Val.lz rfl) rfl)) ?_
            refine RunL.pure rfl rfl (OpG.plain rfl (OpP.pick_and rfl rfl rfl)) ?_
            refine RunL.pure rfl rfl (OpG.plain rfl (OpP.move (Val.of rfl))) ?_
            refine RunL.pure rfl rfl (OpG.onT rfl rfl rfl (OpP.call (by kernel_rfl) .nil (fun hA => by first | (have hct := law14_sure; exact hct) | exact law14_sure))) ?_
            refine RunL.pure rfl rfl (OpG.plain rfl (OpP.pick_and rfl rfl rfl)) ?_
            refine RunL.pure rfl rfl (OpG.plain rfl (OpP.assign (Val.of rfl))) ?_
            refine RunL.nil ?_
            refine RunQ.then_normal ?_
            refine Run.ret ?_
            refine RunQ.ret1 rfl rfl ?_
            have h51 := set_51 haR
            have hn4 := hs4.n
            simp only at hn4
            have g1 : decide ((s4.n : Int) ≤ 51) = true := by simp; omega
            have g2 : decide ((s4.n : Int) ≤ (s.n : Int) + (s1.n : Int)) = true := by simp; omega
            show Value.bool (((true && decide ((s4.n : Int) ≤ 51)) && decide ((s4.n : Int) ≤ (s.n : Int) + (s1.n : Int))) && true) = _
            rw [g1, g2]; rfl
      · refine Run.skip ?_
        refine RunQ.then_normal ?_
        refine Run.seq ?_
        refine Run.region' ?_
        refine RunL.pure rfl rfl (OpG.plain rfl (OpP.move (Val.of rfl))) ?_
        refine RunL.pure rfl rfl (OpG.plain rfl (OpP.call (by kernel_rfl) (.cons (Val.of rfl) .nil) (fun hA => by have hct := actset_Right hs4; rw [haR] at hct; exact hct))) ?_
        refine RunL.pure rfl rfl (OpG.plain rfl (OpP.move (Val.of rfl))) ?_
        refine RunL.pure rfl rfl (OpG.onT rfl rfl rfl (OpP.move (Val.of rfl))) ?_
        refine RunL.pure rfl rfl (OpG.onT rfl rfl rfl (OpP.lenSl (Val.lz rfl) inferInstance)) ?_
        refine RunL.pure rfl rfl (OpG.onT rfl rfl rfl (OpP.bin (Val.lz rfl) (Val.of rfl) rfl)) ?_
        refine RunL.pure rfl rfl (OpG.plain rfl (OpP.pick_and rfl rfl rfl)) ?_
        refine RunL.pure rfl rfl (OpG.plain rfl (OpP.move (Val.of rfl))) ?_
        refine RunL.pure rfl rfl (OpG.onT rfl rfl rfl (OpP.move (Val.of rfl))) ?_
        refine RunL.pure rfl rfl (OpG.onT rfl rfl rfl (OpP.lenSl (Val.lz rfl) inferInstance)) ?_
        refine RunL.pure rfl rfl (OpG.onT rfl rfl rfl (OpP.move (Val.of rfl))) ?_
        refine RunL.pure rfl rfl (OpG.onT rfl rfl rfl (OpP.lenSl (Val.lz rfl) inferInstance)) ?_
        refine RunL.pure rfl rfl (OpG.onT rfl rfl rfl (OpP.move (Val.of rfl))) ?_
        refine RunL.pure rfl rfl (OpG.onT rfl rfl rfl (OpP.lenSl (Val.lz rfl) inferInstance)) ?_
        refine RunL.pure rfl rfl (OpG.onT rfl rfl rfl (by first | exact OpP.add64 (Val.lz rfl) (Val.lz rfl) (by omega) (by omega) | exact OpP.bin (Val.lz rfl) (Val.lz rfl) rfl)) ?_
        refine RunL.pure rfl rfl (OpG.onT rfl rfl rfl (OpP.bin (Val.lz rfl) (Val.lz rfl) rfl)) ?_
        refine RunL.pure rfl rfl (OpG.plain rfl (OpP.pick_and rfl rfl rfl)) ?_
        refine RunL.pure rfl rfl (OpG.plain rfl (OpP.move (Val.of rfl))) ?_
        refine RunL.pure rfl rfl (OpG.onT rfl rfl rfl (OpP.call (by kernel_rfl) .nil (fun hA => by first | (have hct := law14_sure; exact hct) | exact law14_sure))) ?_
        refine RunL.pure rfl rfl (OpG.plain rfl (OpP.pick_and rfl rfl rfl)) ?_
        refine RunL.pure rfl rfl (OpG.plain rfl (OpP.assign (Val.of rfl))) ?_
        refine RunL.nil ?_
        refine RunQ.then_normal ?_
        refine Run.ret ?_
        refine RunQ.ret1 rfl rfl ?_
        have h51 := set_51 haR
        have hn4 := hs4.n
        simp only at hn4
        have g1 : decide ((s4.n : Int) ≤ 51) = true := by simp; omega
        have g2 : decide ((s4.n : Int) ≤ (s.n : Int) + (s1.n : Int)) = true := by simp; omega
        show Value.bool (((true && decide ((s4.n : Int) ≤ 51)) && decide ((s4.n : Int) ≤ (s.n : Int) + (s1.n : Int))) && true) = _
        rw [g1, g2]; rfl
end Go.Proofs.YtcckofgleghbgaaDoor
