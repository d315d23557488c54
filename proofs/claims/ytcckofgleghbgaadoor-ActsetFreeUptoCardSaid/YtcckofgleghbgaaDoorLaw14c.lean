/- Contracts: gunwalelaw14: ActsetFree. -/
import Derived.Test.YtcckofgleghbgaaDoorLaw14b
namespace Go.Proofs.YtcckofgleghbgaaDoor
open Go Sx
theorem write_small {set l : List ActM} (h1 : ∀ x ∈ set, ActSmall x) (h2 : ∀ x ∈ l, ActSmall x) : ∀ x ∈ (setWrite set l).1, ActSmall x := by
  intro x hx
  unfold setWrite at hx
  split at hx
  · cases hx
  · exact fold_small h2 h1 x hx
theorem write_right {set l : List ActM} : setRight (setWrite set l).1 = true ∨ (setWrite set l).1 = [] := by
  by_cases h : (setWrite set l).2 = 0
  · have h2 := (setWrite_iff set l).1 h
    rw [setWrite_ok h]; exact .inl (setFold_right h2.1 h2.2)
  · rw [setWrite_bad h]; exact .inr rfl
theorem actPair {h : GH} {s : Sl} {a b : ActM} {sva sma sda svb smb sdb : Sl} (ha : IsAct h a sva sma sda) (hb : IsAct h b svb smb sdb) (hs : IsSl h 10 s [actC a sva sma sda, actC b svb smb sdb].flatten) : IsActs h s [a, b] :=
  .ofCss hs (Reps.cons ⟨_, _, _, rfl, ha⟩ rfl (Reps.cons ⟨_, _, _, rfl, hb⟩ rfl Reps.nil)) (by simp)
set_option maxHeartbeats 4000000 in
set_option maxRecDepth 100000 in
theorem law14_ActsetFree {h : GH} {s sva sma sda svb smb sdb : Sl} {l : List ActM} {a b : ActM} (hs : IsActs h s l) (ha : IsAct h a sva sma sda) (hb : IsAct h b svb smb sdb) (hl2 : l.length ≤ 2000000) : Ctr Tryd.prog 5 [s.v, actV a sva sma sda, actV b svb smb sdb].toArray h [] fun r h' _ => r = .bool true := by
  have hn := hs.n
  refine Ctr.of_run Tryd.func5 rfl rfl rfl fun w0 => ?_
  refine Run.seq ?_
  refine Run.region' ?_
  refine RunL.boxA rfl rfl fun b1 => ?_
  refine RunL.boxA rfl rfl fun b2 => ?_
  refine RunL.pure rfl rfl (OpG.plain rfl (OpP.assign (Val.of rfl))) ?_
  refine RunL.nil ?_
  refine RunQ.then_normal ?_
  refine Run.seq ?_
  refine Run.seq ?_
  refine Run.region' ?_
  refine RunL.pure rfl rfl (OpG.plain rfl (by first | exact OpP.loadW (Val.of rfl) Take.head rfl inferInstance | exact OpP.loadW (Val.of rfl) (Take.cons Take.head) rfl inferInstance | exact OpP.loadW (Val.of rfl) (Take.cons (Take.cons Take.head)) rfl inferInstance | exact OpP.loadW (Val.of rfl) (Take.cons (Take.cons (Take.cons Take.head))) rfl inferInstance | exact OpP.loadW (Val.of rfl) (Take.cons (Take.cons (Take.cons (Take.cons Take.head)))) rfl inferInstance | exact OpP.loadW (Val.of rfl) (Take.app Take.head) rfl inferInstance | exact OpP.loadW (Val.of rfl) (Take.app (Take.cons Take.head)) rfl inferInstance | exact OpP.loadW (Val.of rfl) (Take.cons (Take.app Take.head)) rfl inferInstance | exact OpP.loadW (Val.of rfl) (Take.app (Take.cons (Take.cons Take.head))) rfl inferInstance | exact OpP.loadW (Val.of rfl) (Take.cons (Take.app (Take.cons Take.head))) rfl inferInstance | exact OpP.loadW (Val.of rfl) (Take.cons (Take.cons (Take.app Take.head))) rfl inferInstance | exact OpP.loadW (Val.of rfl) (Take.app (Take.cons (Take.cons (Take.cons Take.head)))) rfl inferInstance | exact OpP.loadW (Val.of rfl) (Take.cons (Take.app (Take.cons (Take.cons Take.head)))) rfl inferInstance | exact OpP.loadW (Val.of rfl) (Take.cons (Take.cons (Take.app (Take.cons Take.head)))) rfl inferInstance | exact OpP.loadW (Val.of rfl) (Take.cons (Take.cons (Take.cons (Take.app Take.head)))) rfl inferInstance | exact OpP.loadO inferInstance (Val.of rfl) Take.head rfl | exact OpP.loadO inferInstance (Val.of rfl) (Take.cons Take.head) rfl | exact OpP.loadO inferInstance (Val.of rfl) (Take.cons (Take.cons Take.head)) rfl | exact OpP.loadO inferInstance (Val.of rfl) (Take.cons (Take.cons (Take.cons Take.head))) rfl | exact OpP.loadO inferInstance (Val.of rfl) (Take.cons (Take.cons (Take.cons (Take.cons Take.head)))) rfl | exact OpP.loadO inferInstance (Val.of rfl) (Take.app Take.head) rfl | exact OpP.loadO inferInstance (Val.of rfl) (Take.app (Take.cons Take.head)) rfl | exact OpP.loadO inferInstance (Val.of rfl) (Take.cons (Take.app Take.head)) rfl | exact OpP.loadO inferInstance (Val.of rfl) (Take.app (Take.cons (Take.cons Take.head))) rfl | exact OpP.loadO inferInstance (Val.of rfl) (Take.cons (Take.app (Take.cons Take.head))) rfl | exact OpP.loadO inferInstance (Val.of rfl) (Take.cons (Take.cons (Take.app Take.head))) rfl | exact OpP.loadO inferInstance (Val.of rfl) (Take.app (Take.cons (Take.cons (Take.cons Take.head)))) rfl | exact OpP.loadO inferInstance (Val.of rfl) (Take.cons (Take.app (Take.cons (Take.cons Take.head)))) rfl | exact OpP.loadO inferInstance (Val.of rfl) (Take.cons (Take.cons (Take.app (Take.cons Take.head)))) rfl | exact OpP.loadO inferInstance (Val.of rfl) (Take.cons (Take.cons (Take.cons (Take.app Take.head)))) rfl | exact OpP.loadN (Val.of rfl) (fun _ => ReadsAll.ghost (by assumption)) rfl inferInstance)) ?_
  refine RunL.pure rfl rfl (OpG.plain rfl (by first | exact OpP.loadW (Val.of rfl) Take.head rfl inferInstance | exact OpP.loadW (Val.of rfl) (Take.cons Take.head) rfl inferInstance | exact OpP.loadW (Val.of rfl) (Take.cons (Take.cons Take.head)) rfl inferInstance | exact OpP.loadW (Val.of rfl) (Take.cons (Take.cons (Take.cons Take.head))) rfl inferInstance | exact OpP.loadW (Val.of rfl) (Take.cons (Take.cons (Take.cons (Take.cons Take.head)))) rfl inferInstance | exact OpP.loadW (Val.of rfl) (Take.app Take.head) rfl inferInstance | exact OpP.loadW (Val.of rfl) (Take.app (Take.cons Take.head)) rfl inferInstance | exact OpP.loadW (Val.of rfl) (Take.cons (Take.app Take.head)) rfl inferInstance | exact OpP.loadW (Val.of rfl) (Take.app (Take.cons (Take.cons Take.head))) rfl inferInstance | exact OpP.loadW (Val.of rfl) (Take.cons (Take.app (Take.cons Take.head))) rfl inferInstance | exact OpP.loadW (Val.of rfl) (Take.cons (Take.cons (Take.app Take.head))) rfl inferInstance | exact OpP.loadW (Val.of rfl) (Take.app (Take.cons (Take.cons (Take.cons Take.head)))) rfl inferInstance | exact OpP.loadW (Val.of rfl) (Take.cons (Take.app (Take.cons (Take.cons Take.head)))) rfl inferInstance | exact OpP.loadW (Val.of rfl) (Take.cons (Take.cons (Take.app (Take.cons Take.head)))) rfl inferInstance | exact OpP.loadW (Val.of rfl) (Take.cons (Take.cons (Take.cons (Take.app Take.head)))) rfl inferInstance | exact OpP.loadO inferInstance (Val.of rfl) Take.head rfl | exact OpP.loadO inferInstance (Val.of rfl) (Take.cons Take.head) rfl | exact OpP.loadO inferInstance (Val.of rfl) (Take.cons (Take.cons Take.head)) rfl | exact OpP.loadO inferInstance (Val.of rfl) (Take.cons (Take.cons (Take.cons Take.head))) rfl | exact OpP.loadO inferInstance (Val.of rfl) (Take.cons (Take.cons (Take.cons (Take.cons Take.head)))) rfl | exact OpP.loadO inferInstance (Val.of rfl) (Take.app Take.head) rfl | exact OpP.loadO inferInstance (Val.of rfl) (Take.app (Take.cons Take.head)) rfl | exact OpP.loadO inferInstance (Val.of rfl) (Take.cons (Take.app Take.head)) rfl | exact OpP.loadO inferInstance (Val.of rfl) (Take.app (Take.cons (Take.cons Take.head))) rfl | exact OpP.loadO inferInstance (Val.of rfl) (Take.cons (Take.app (Take.cons Take.head))) rfl | exact OpP.loadO inferInstance (Val.of rfl) (Take.cons (Take.cons (Take.app Take.head))) rfl | exact OpP.loadO inferInstance (Val.of rfl) (Take.app (Take.cons (Take.cons (Take.cons Take.head)))) rfl | exact OpP.loadO inferInstance (Val.of rfl) (Take.cons (Take.app (Take.cons (Take.cons Take.head)))) rfl | exact OpP.loadO inferInstance (Val.of rfl) (Take.cons (Take.cons (Take.app (Take.cons Take.head)))) rfl | exact OpP.loadO inferInstance (Val.of rfl) (Take.cons (Take.cons (Take.cons (Take.app Take.head)))) rfl | exact OpP.loadN (Val.of rfl) (fun _ => ReadsAll.ghost (by assumption)) rfl inferInstance)) ?_
  refine RunL.buildSlice inferInstance inferInstance inferInstance rfl rfl rfl rfl rfl rfl fun b3 => ?_
  refine RunL.pure rfl rfl (OpG.plain rfl (OpP.move (Val.of rfl))) ?_
  obtain ⟨cssl, hsl, hrl⟩ := hs.rep.reps
  refine RunL.append inferInstance inferInstance inferInstance inferInstance (s := ⟨some ⟨b3, 0, none⟩, 2, 2⟩) (r := s) (xs := [actC a sva sma sda, actC b svb smb sdb].flatten) rfl rfl rfl (OwnSl.built (m := 2) rfl (by simp [maxLen])) Take.head (SrcAt.ghost hsl) hrl.allOne (by simp [maxLen]; omega) (by simp; omega) rfl rfl fun s5 N5 hn5 ho5 => ?_
  refine RunL.freezeSl ho5 Take.here fun h5 hle5 hs5 => ?_
  replace ha := ha.mono hle5
  replace hb := hb.mono hle5
  replace hs := hs.mono hle5
  have hs6 : IsActs h5 s5 ([a, b] ++ l) := .ofCss (css := [actC a sva sma sda, actC b svb smb sdb] ++ cssl) (by rw [List.flatten_append]; exact hs5) (Reps.cons ⟨_, _, _, rfl, ha⟩ rfl (Reps.cons ⟨_, _, _, rfl, hb⟩ rfl (hrl.mono fun _ _ hr => hr.mono hle5))) (by simp; omega)
  refine RunL.pure rfl rfl (OpG.plain rfl (OpP.call (by kernel_rfl) (.cons (Val.of rfl) .nil) (fun hA => by first | (have hct := ref13_Few hs6; exact hct) | exact ref13_Few hs6))) ?_
  refine RunL.pure rfl rfl (OpG.plain rfl (OpP.not (Val.of rfl))) ?_
  refine RunL.nil ?_
  refine RunQ.then_normal ?_
  refine Run.cond rfl (fun hc0 => ?_) (fun hc0 => ?_)
  · refine Run.seq ?_
    refine Run.region' ?_
    refine RunL.pure rfl rfl (OpG.plain rfl (OpP.call (by kernel_rfl) .nil (fun hA => by first | (have hct := law14_sure; exact hct) | exact law14_sure))) ?_
    refine RunL.pure rfl rfl (OpG.plain rfl (OpP.assign (Val.of rfl))) ?_
    refine RunL.nil ?_
    refine RunQ.then_normal ?_
    refine Run.ret ?_
    refine RunQ.then_ret ?_
    refine RunQ.ret1 rfl rfl ?_
    rfl
  · have h0 : actsFew ([a, b] ++ l) = true := by simpa using hc0
    obtain ⟨hf, hl80⟩ := actsFew_facts h0
    simp only [List.all_append, List.all_cons, List.all_nil, Bool.and_true, Bool.and_eq_true] at hf
    obtain ⟨⟨hfa, hfb⟩, hlf⟩ := hf
    simp only [List.length_append, List.length_cons, List.length_nil] at hl80
    have hlS := actsFew_small hlf
    have haS := actFew_small hfa
    have hbS := actFew_small hfb
    have habS : ∀ x ∈ [a, b], ActSmall x := by intro x hx; simp at hx; rcases hx with rfl | rfl <;> assumption
    have hbaS : ∀ x ∈ [b, a], ActSmall x := by intro x hx; simp at hx; rcases hx with rfl | rfl <;> assumption
    have hxL : (setWrite [] l).1.length ≤ 0 + l.length := setWrite_length [] l
    have hxS := write_small (set := []) (by simp) hlS
    refine Run.skip ?_
    refine RunQ.then_normal ?_
    refine Run.seq ?_
    refine Run.region' ?_
    refine RunL.pure rfl rfl (OpG.plain rfl (OpP.move (Val.of rfl))) ?_
    have hct := actset_Write (set := []) IsActs.nil hs (by simp) hlS (by simp; omega)
    refine RunL.call rfl (by kernel_rfl) rfl Take.nothing hct (fun v h2 N2 hle2 hx2 => ?_)
    obtain ⟨hN2, s2, hv2, hs2⟩ := hx2
    subst hN2 hv2
    replace ha := ha.mono hle2
    replace hb := hb.mono hle2
    have hn2 := hs2.n
    refine RunL.pure rfl rfl (OpG.plain rfl (OpP.move (Val.of rfl))) ?_
    refine RunL.pure rfl rfl (OpG.plain rfl (OpP.extract (Val.of rfl) rfl)) ?_
    refine RunL.pure rfl rfl (OpG.plain rfl (OpP.extract (Val.of rfl) rfl)) ?_
    refine RunL.pure rfl rfl (OpG.plain rfl (OpP.assign (Val.of rfl))) ?_
    refine RunL.pure rfl rfl (OpG.plain rfl (OpP.assign (Val.of rfl))) ?_
    refine RunL.nil ?_
    refine RunQ.then_normal ?_
    refine Run.seq ?_
    refine Run.region' ?_
    refine RunL.pure rfl rfl (OpG.plain rfl (OpP.move (Val.of rfl))) ?_
    refine RunL.pure rfl rfl (OpG.plain rfl (by first | exact OpP.loadW (Val.of rfl) Take.head rfl inferInstance | exact OpP.loadW (Val.of rfl) (Take.cons Take.head) rfl inferInstance | exact OpP.loadW (Val.of rfl) (Take.cons (Take.cons Take.head)) rfl inferInstance | exact OpP.loadW (Val.of rfl) (Take.cons (Take.cons (Take.cons Take.head))) rfl inferInstance | exact OpP.loadW (Val.of rfl) (Take.cons (Take.cons (Take.cons (Take.cons Take.head)))) rfl inferInstance | exact OpP.loadW (Val.of rfl) (Take.app Take.head) rfl inferInstance | exact OpP.loadW (Val.of rfl) (Take.app (Take.cons Take.head)) rfl inferInstance | exact OpP.loadW (Val.of rfl) (Take.cons (Take.app Take.head)) rfl inferInstance | exact OpP.loadW (Val.of rfl) (Take.app (Take.cons (Take.cons Take.head))) rfl inferInstance | exact OpP.loadW (Val.of rfl) (Take.cons (Take.app (Take.cons Take.head))) rfl inferInstance | exact OpP.loadW (Val.of rfl) (Take.cons (Take.cons (Take.app Take.head))) rfl inferInstance | exact OpP.loadW (Val.of rfl) (Take.app (Take.cons (Take.cons (Take.cons Take.head)))) rfl inferInstance | exact OpP.loadW (Val.of rfl) (Take.cons (Take.app (Take.cons (Take.cons Take.head)))) rfl inferInstance | exact OpP.loadW (Val.of rfl) (Take.cons (Take.cons (Take.app (Take.cons Take.head)))) rfl inferInstance | exact OpP.loadW (Val.of rfl) (Take.cons (Take.cons (Take.cons (Take.app Take.head)))) rfl inferInstance | exact OpP.loadO inferInstance (Val.of rfl) Take.head rfl | exact OpP.loadO inferInstance (Val.of rfl) (Take.cons Take.head) rfl | exact OpP.loadO inferInstance (Val.of rfl) (Take.cons (Take.cons Take.head)) rfl | exact OpP.loadO inferInstance (Val.of rfl) (Take.cons (Take.cons (Take.cons Take.head))) rfl | exact OpP.loadO inferInstance (Val.of rfl) (Take.cons (Take.cons (Take.cons (Take.cons Take.head)))) rfl | exact OpP.loadO inferInstance (Val.of rfl) (Take.app Take.head) rfl | exact OpP.loadO inferInstance (Val.of rfl) (Take.app (Take.cons Take.head)) rfl | exact OpP.loadO inferInstance (Val.of rfl) (Take.cons (Take.app Take.head)) rfl | exact OpP.loadO inferInstance (Val.of rfl) (Take.app (Take.cons (Take.cons Take.head))) rfl | exact OpP.loadO inferInstance (Val.of rfl) (Take.cons (Take.app (Take.cons Take.head))) rfl | exact OpP.loadO inferInstance (Val.of rfl) (Take.cons (Take.cons (Take.app Take.head))) rfl | exact OpP.loadO inferInstance (Val.of rfl) (Take.app (Take.cons (Take.cons (Take.cons Take.head)))) rfl | exact OpP.loadO inferInstance (Val.of rfl) (Take.cons (Take.app (Take.cons (Take.cons Take.head)))) rfl | exact OpP.loadO inferInstance (Val.of rfl) (Take.cons (Take.cons (Take.app (Take.cons Take.head)))) rfl | exact OpP.loadO inferInstance (Val.of rfl) (Take.cons (Take.cons (Take.cons (Take.app Take.head)))) rfl | exact OpP.loadN (Val.of rfl) (fun _ => ReadsAll.ghost (by assumption)) rfl inferInstance)) ?_
    refine RunL.pure rfl rfl (OpG.plain rfl (by first | exact OpP.loadW (Val.of rfl) Take.head rfl inferInstance | exact OpP.loadW (Val.of rfl) (Take.cons Take.head) rfl inferInstance | exact OpP.loadW (Val.of rfl) (Take.cons (Take.cons Take.head)) rfl inferInstance | exact OpP.loadW (Val.of rfl) (Take.cons (Take.cons (Take.cons Take.head))) rfl inferInstance | exact OpP.loadW (Val.of rfl) (Take.cons (Take.cons (Take.cons (Take.cons Take.head)))) rfl inferInstance | exact OpP.loadW (Val.of rfl) (Take.app Take.head) rfl inferInstance | exact OpP.loadW (Val.of rfl) (Take.app (Take.cons Take.head)) rfl inferInstance | exact OpP.loadW (Val.of rfl) (Take.cons (Take.app Take.head)) rfl inferInstance | exact OpP.loadW (Val.of rfl) (Take.app (Take.cons (Take.cons Take.head))) rfl inferInstance | exact OpP.loadW (Val.of rfl) (Take.cons (Take.app (Take.cons Take.head))) rfl inferInstance | exact OpP.loadW (Val.of rfl) (Take.cons (Take.cons (Take.app Take.head))) rfl inferInstance | exact OpP.loadW (Val.of rfl) (Take.app (Take.cons (Take.cons (Take.cons Take.head)))) rfl inferInstance | exact OpP.loadW (Val.of rfl) (Take.cons (Take.app (Take.cons (Take.cons Take.head)))) rfl inferInstance | exact OpP.loadW (Val.of rfl) (Take.cons (Take.cons (Take.app (Take.cons Take.head)))) rfl inferInstance | exact OpP.loadW (Val.of rfl) (Take.cons (Take.cons (Take.cons (Take.app Take.head)))) rfl inferInstance | exact OpP.loadO inferInstance (Val.of rfl) Take.head rfl | exact OpP.loadO inferInstance (Val.of rfl) (Take.cons Take.head) rfl | exact OpP.loadO inferInstance (Val.of rfl) (Take.cons (Take.cons Take.head)) rfl | exact OpP.loadO inferInstance (Val.of rfl) (Take.cons (Take.cons (Take.cons Take.head))) rfl | exact OpP.loadO inferInstance (Val.of rfl) (Take.cons (Take.cons (Take.cons (Take.cons Take.head)))) rfl | exact OpP.loadO inferInstance (Val.of rfl) (Take.app Take.head) rfl | exact OpP.loadO inferInstance (Val.of rfl) (Take.app (Take.cons Take.head)) rfl | exact OpP.loadO inferInstance (Val.of rfl) (Take.cons (Take.app Take.head)) rfl | exact OpP.loadO inferInstance (Val.of rfl) (Take.app (Take.cons (Take.cons Take.head))) rfl | exact OpP.loadO inferInstance (Val.of rfl) (Take.cons (Take.app (Take.cons Take.head))) rfl | exact OpP.loadO inferInstance (Val.of rfl) (Take.cons (Take.cons (Take.app Take.head))) rfl | exact OpP.loadO inferInstance (Val.of rfl) (Take.app (Take.cons (Take.cons (Take.cons Take.head)))) rfl | exact OpP.loadO inferInstance (Val.of rfl) (Take.cons (Take.app (Take.cons (Take.cons Take.head)))) rfl | exact OpP.loadO inferInstance (Val.of rfl) (Take.cons (Take.cons (Take.app (Take.cons Take.head)))) rfl | exact OpP.loadO inferInstance (Val.of rfl) (Take.cons (Take.cons (Take.cons (Take.app Take.head)))) rfl | exact OpP.loadN (Val.of rfl) (fun _ => ReadsAll.ghost (by assumption)) rfl inferInstance)) ?_
    refine RunL.buildSlice inferInstance inferInstance inferInstance rfl rfl rfl rfl rfl rfl fun b4 => ?_
    refine RunL.freezeB (m := 2) (size := 10) (c := [actC a sva sma sda, actC b svb smb sdb].flatten) Take.head rfl (by simp [maxLen]) fun h3 hle3 hs3 => ?_
    replace ha := ha.mono hle3
    replace hb := hb.mono hle3
    replace hs2 := hs2.mono hle3
    have hA3 := actPair ha hb hs3
    have hct := actset_Write hs2 hA3 hxS habS (by simp; omega)
    refine RunL.call rfl (by kernel_rfl) rfl Take.nothing hct (fun v h4 N4 hle4 hx4 => ?_)
    obtain ⟨hN4, s4, hv4, hs4⟩ := hx4
    subst hN4 hv4
    replace ha := ha.mono hle4
    replace hb := hb.mono hle4
    replace hs2 := hs2.mono hle4
    refine RunL.pure rfl rfl (OpG.plain rfl (OpP.move (Val.of rfl))) ?_
    refine RunL.pure rfl rfl (OpG.plain rfl (OpP.extract (Val.of rfl) rfl)) ?_
    refine RunL.pure rfl rfl (OpG.plain rfl (OpP.extract (Val.of rfl) rfl)) ?_
    refine RunL.pure rfl rfl (OpG.plain rfl (OpP.assign (Val.of rfl))) ?_
    refine RunL.pure rfl rfl (OpG.plain rfl (OpP.assign (Val.of rfl))) ?_
    refine RunL.nil ?_
    refine RunQ.then_normal ?_
    refine Run.seq ?_
    refine Run.region' ?_
    refine RunL.pure rfl rfl (OpG.plain rfl (OpP.move (Val.of rfl))) ?_
    refine RunL.pure rfl rfl (OpG.plain rfl (by first | exact OpP.loadW (Val.of rfl) Take.head rfl inferInstance | exact OpP.loadW (Val.of rfl) (Take.cons Take.head) rfl inferInstance | exact OpP.loadW (Val.of rfl) (Take.cons (Take.cons Take.head)) rfl inferInstance | exact OpP.loadW (Val.of rfl) (Take.cons (Take.cons (Take.cons Take.head))) rfl inferInstance | exact OpP.loadW (Val.of rfl) (Take.cons (Take.cons (Take.cons (Take.cons Take.head)))) rfl inferInstance | exact OpP.loadW (Val.of rfl) (Take.app Take.head) rfl inferInstance | exact OpP.loadW (Val.of rfl) (Take.app (Take.cons Take.head)) rfl inferInstance | exact OpP.loadW (Val.of rfl) (Take.cons (Take.app Take.head)) rfl inferInstance | exact OpP.loadW (Val.of rfl) (Take.app (Take.cons (Take.cons Take.head))) rfl inferInstance | exact OpP.loadW (Val.of rfl) (Take.cons (Take.app (Take.cons Take.head))) rfl inferInstance | exact OpP.loadW (Val.of rfl) (Take.cons (Take.cons (Take.app Take.head))) rfl inferInstance | exact OpP.loadW (Val.of rfl) (Take.app (Take.cons (Take.cons (Take.cons Take.head)))) rfl inferInstance | exact OpP.loadW (Val.of rfl) (Take.cons (Take.app (Take.cons (Take.cons Take.head)))) rfl inferInstance | exact OpP.loadW (Val.of rfl) (Take.cons (Take.cons (Take.app (Take.cons Take.head)))) rfl inferInstance | exact OpP.loadW (Val.of rfl) (Take.cons (Take.cons (Take.cons (Take.app Take.head)))) rfl inferInstance | exact OpP.loadO inferInstance (Val.of rfl) Take.head rfl | exact OpP.loadO inferInstance (Val.of rfl) (Take.cons Take.head) rfl | exact OpP.loadO inferInstance (Val.of rfl) (Take.cons (Take.cons Take.head)) rfl | exact OpP.loadO inferInstance (Val.of rfl) (Take.cons (Take.cons (Take.cons Take.head))) rfl | exact OpP.loadO inferInstance (Val.of rfl) (Take.cons (Take.cons (Take.cons (Take.cons Take.head)))) rfl | exact OpP.loadO inferInstance (Val.of rfl) (Take.app Take.head) rfl | exact OpP.loadO inferInstance (Val.of rfl) (Take.app (Take.cons Take.head)) rfl | exact OpP.loadO inferInstance (Val.of rfl) (Take.cons (Take.app Take.head)) rfl | exact OpP.loadO inferInstance (Val.of rfl) (Take.app (Take.cons (Take.cons Take.head))) rfl | exact OpP.loadO inferInstance (Val.of rfl) (Take.cons (Take.app (Take.cons Take.head))) rfl | exact OpP.loadO inferInstance (Val.of rfl) (Take.cons (Take.cons (Take.app Take.head))) rfl | exact OpP.loadO inferInstance (Val.of rfl) (Take.app (Take.cons (Take.cons (Take.cons Take.head)))) rfl | exact OpP.loadO inferInstance (Val.of rfl) (Take.cons (Take.app (Take.cons (Take.cons Take.head)))) rfl | exact OpP.loadO inferInstance (Val.of rfl) (Take.cons (Take.cons (Take.app (Take.cons Take.head)))) rfl | exact OpP.loadO inferInstance (Val.of rfl) (Take.cons (Take.cons (Take.cons (Take.app Take.head)))) rfl | exact OpP.loadN (Val.of rfl) (fun _ => ReadsAll.ghost (by assumption)) rfl inferInstance)) ?_
    refine RunL.pure rfl rfl (OpG.plain rfl (by first | exact OpP.loadW (Val.of rfl) Take.head rfl inferInstance | exact OpP.loadW (Val.of rfl) (Take.cons Take.head) rfl inferInstance | exact OpP.loadW (Val.of rfl) (Take.cons (Take.cons Take.head)) rfl inferInstance | exact OpP.loadW (Val.of rfl) (Take.cons (Take.cons (Take.cons Take.head))) rfl inferInstance | exact OpP.loadW (Val.of rfl) (Take.cons (Take.cons (Take.cons (Take.cons Take.head)))) rfl inferInstance | exact OpP.loadW (Val.of rfl) (Take.app Take.head) rfl inferInstance | exact OpP.loadW (Val.of rfl) (Take.app (Take.cons Take.head)) rfl inferInstance | exact OpP.loadW (Val.of rfl) (Take.cons (Take.app Take.head)) rfl inferInstance | exact OpP.loadW (Val.of rfl) (Take.app (Take.cons (Take.cons Take.head))) rfl inferInstance | exact OpP.loadW (Val.of rfl) (Take.cons (Take.app (Take.cons Take.head))) rfl inferInstance | exact OpP.loadW (Val.of rfl) (Take.cons (Take.cons (Take.app Take.head))) rfl inferInstance | exact OpP.loadW (Val.of rfl) (Take.app (Take.cons (Take.cons (Take.cons Take.head)))) rfl inferInstance | exact OpP.loadW (Val.of rfl) (Take.cons (Take.app (Take.cons (Take.cons Take.head)))) rfl inferInstance | exact OpP.loadW (Val.of rfl) (Take.cons (Take.cons (Take.app (Take.cons Take.head)))) rfl inferInstance | exact OpP.loadW (Val.of rfl) (Take.cons (Take.cons (Take.cons (Take.app Take.head)))) rfl inferInstance | exact OpP.loadO inferInstance (Val.of rfl) Take.head rfl | exact OpP.loadO inferInstance (Val.of rfl) (Take.cons Take.head) rfl | exact OpP.loadO inferInstance (Val.of rfl) (Take.cons (Take.cons Take.head)) rfl | exact OpP.loadO inferInstance (Val.of rfl) (Take.cons (Take.cons (Take.cons Take.head))) rfl | exact OpP.loadO inferInstance (Val.of rfl) (Take.cons (Take.cons (Take.cons (Take.cons Take.head)))) rfl | exact OpP.loadO inferInstance (Val.of rfl) (Take.app Take.head) rfl | exact OpP.loadO inferInstance (Val.of rfl) (Take.app (Take.cons Take.head)) rfl | exact OpP.loadO inferInstance (Val.of rfl) (Take.cons (Take.app Take.head)) rfl | exact OpP.loadO inferInstance (Val.of rfl) (Take.app (Take.cons (Take.cons Take.head))) rfl | exact OpP.loadO inferInstance (Val.of rfl) (Take.cons (Take.app (Take.cons Take.head))) rfl | exact OpP.loadO inferInstance (Val.of rfl) (Take.cons (Take.cons (Take.app Take.head))) rfl | exact OpP.loadO inferInstance (Val.of rfl) (Take.app (Take.cons (Take.cons (Take.cons Take.head)))) rfl | exact OpP.loadO inferInstance (Val.of rfl) (Take.cons (Take.app (Take.cons (Take.cons Take.head)))) rfl | exact OpP.loadO inferInstance (Val.of rfl) (Take.cons (Take.cons (Take.app (Take.cons Take.head)))) rfl | exact OpP.loadO inferInstance (Val.of rfl) (Take.cons (Take.cons (Take.cons (Take.app Take.head)))) rfl | exact OpP.loadN (Val.of rfl) (fun _ => ReadsAll.ghost (by assumption)) rfl inferInstance)) ?_
    refine RunL.buildSlice inferInstance inferInstance inferInstance rfl rfl rfl rfl rfl rfl fun b5 => ?_
    refine RunL.freezeB (m := 2) (size := 10) (c := [actC b svb smb sdb, actC a sva sma sda].flatten) Take.head rfl (by simp [maxLen]) fun h5 hle5 hs5 => ?_
    replace ha := ha.mono hle5
    replace hb := hb.mono hle5
    replace hs2 := hs2.mono hle5
    replace hs4 := hs4.mono hle5
    have hA5 := actPair hb ha hs5
    have hct := actset_Write hs2 hA5 hxS hbaS (by simp; omega)
    refine RunL.call rfl (by kernel_rfl) rfl Take.nothing hct (fun v h6 N6 hle6 hx6 => ?_)
    obtain ⟨hN6, s6, hv6, hs6'⟩ := hx6
    subst hN6 hv6
    replace hs2 := hs2.mono hle6
    replace hs4 := hs4.mono hle6
    refine RunL.pure rfl rfl (OpG.plain rfl (OpP.move (Val.of rfl))) ?_
    refine RunL.pure rfl rfl (OpG.plain rfl (OpP.extract (Val.of rfl) rfl)) ?_
    refine RunL.pure rfl rfl (OpG.plain rfl (OpP.extract (Val.of rfl) rfl)) ?_
    refine RunL.pure rfl rfl (OpG.plain rfl (OpP.assign (Val.of rfl))) ?_
    refine RunL.pure rfl rfl (OpG.plain rfl (OpP.assign (Val.of rfl))) ?_
    refine RunL.nil ?_
    refine RunQ.then_normal ?_
    refine Run.seq ?_
    refine Run.seq ?_
    refine Run.region' ?_
    refine RunL.pure rfl rfl (OpG.plain rfl (OpP.move (Val.of rfl))) ?_
    refine RunL.pure rfl rfl (OpG.plain rfl (OpP.bin (Val.of rfl) (Val.of rfl) rfl)) ?_
    refine RunL.nil ?_
    refine RunQ.then_normal ?_
    refine Run.cond rfl (fun hc1 => ?_) (fun hc1 => ?_)
    · have he : (setWrite [] l).2 ≠ 0 := by simpa using hc1
      rw [setWrite_bad he] at hn2
      refine Run.seq ?_
      refine Run.region' ?_
      refine RunL.pure rfl rfl (OpG.plain rfl (OpP.move (Val.of rfl))) ?_
      refine RunL.pure rfl rfl (OpG.plain rfl (OpP.lenSl (Val.of rfl) inferInstance)) ?_
      refine RunL.pure rfl rfl (OpG.plain rfl (OpP.bin (Val.of rfl) (Val.of rfl) rfl)) ?_
      refine RunL.pure rfl rfl (OpG.plain rfl (OpP.move (Val.of rfl))) ?_
      refine RunL.pure rfl rfl (OpG.onT rfl rfl rfl (OpP.call (by kernel_rfl) .nil (fun hA => by first | (have hct := law14_sure; exact hct) | exact law14_sure))) ?_
      refine RunL.pure rfl rfl (OpG.plain rfl (OpP.pick_and rfl rfl rfl)) ?_
      refine RunL.pure rfl rfl (OpG.plain rfl (OpP.assign (Val.of rfl))) ?_
      refine RunL.nil ?_
      refine RunQ.then_normal ?_
      refine Run.ret ?_
      refine RunQ.then_ret ?_
      refine RunQ.ret1 rfl rfl ?_
      simp only [List.length_nil] at hn2
      show Value.bool (((s2.n : Int) == 0) && true) = _
      rw [hn2]; rfl
    · have he : (setWrite [] l).2 = 0 := by simpa using hc1
      refine Run.skip ?_
      refine RunQ.then_normal ?_
      refine Run.seq ?_
      refine Run.seq ?_
      refine Run.region' ?_
      refine RunL.pure rfl rfl (OpG.plain rfl (OpP.move (Val.of rfl))) ?_
      refine RunL.pure rfl rfl (OpG.plain rfl (OpP.move (Val.of rfl))) ?_
      refine RunL.pure rfl rfl (OpG.plain rfl (OpP.bin (Val.of rfl) (Val.of rfl) rfl)) ?_
      refine RunL.pure rfl rfl (OpG.plain rfl (OpP.move (Val.of rfl))) ?_
      refine RunL.pure rfl rfl (OpG.onF rfl rfl rfl (OpP.fieldAddr (Val.of rfl) inferInstance)) ?_
      refine RunL.pure rfl rfl (OpG.onF rfl rfl rfl (by first | exact OpP.load1 (Val.lz rfl) (fun _ => .own Take.head rfl) inferInstance | exact OpP.load1 (Val.lz rfl) (fun _ => .own (Take.cons Take.head) rfl) inferInstance | exact OpP.load1 (Val.lz rfl) (fun _ => .own (Take.cons (Take.cons Take.head)) rfl) inferInstance | exact OpP.load1 (Val.lz rfl) (fun _ => .own (Take.cons (Take.cons (Take.cons Take.head))) rfl) inferInstance | exact OpP.load1 (Val.lz rfl) (fun _ => .own (Take.cons (Take.cons (Take.cons (Take.cons Take.head)))) rfl) inferInstance | exact OpP.load1 (Val.lz rfl) (fun _ => .own (Take.app Take.head) rfl) inferInstance | exact OpP.load1 (Val.lz rfl) (fun _ => .own (Take.app (Take.cons Take.head)) rfl) inferInstance | exact OpP.load1 (Val.lz rfl) (fun _ => .own (Take.cons (Take.app Take.head)) rfl) inferInstance | exact OpP.load1 (Val.lz rfl) (fun _ => .own (Take.app (Take.cons (Take.cons Take.head))) rfl) inferInstance | exact OpP.load1 (Val.lz rfl) (fun _ => .own (Take.cons (Take.app (Take.cons Take.head))) rfl) inferInstance | exact OpP.load1 (Val.lz rfl) (fun _ => .own (Take.cons (Take.cons (Take.app Take.head))) rfl) inferInstance | exact OpP.load1 (Val.lz rfl) (fun _ => .own (Take.app (Take.cons (Take.cons (Take.cons Take.head)))) rfl) inferInstance | exact OpP.load1 (Val.lz rfl) (fun _ => .own (Take.cons (Take.app (Take.cons (Take.cons Take.head)))) rfl) inferInstance | exact OpP.load1 (Val.lz rfl) (fun _ => .own (Take.cons (Take.cons (Take.app (Take.cons Take.head)))) rfl) inferInstance | exact OpP.load1 (Val.lz rfl) (fun _ => .own (Take.cons (Take.cons (Take.cons (Take.app Take.head)))) rfl) inferInstance | exact OpP.load1 (Val.lz rfl) (fun _ => .inl (by assumption)) inferInstance)) ?_
      refine RunL.pure rfl rfl (OpG.onF rfl rfl rfl (OpP.fieldAddr (Val.of rfl) inferInstance)) ?_
      refine RunL.pure rfl rfl (OpG.onF rfl rfl rfl (by first | exact OpP.load1 (Val.lz rfl) (fun _ => .own Take.head rfl) inferInstance | exact OpP.load1 (Val.lz rfl) (fun _ => .own (Take.cons Take.head) rfl) inferInstance | exact OpP.load1 (Val.lz rfl) (fun _ => .own (Take.cons (Take.cons Take.head)) rfl) inferInstance | exact OpP.load1 (Val.lz rfl) (fun _ => .own (Take.cons (Take.cons (Take.cons Take.head))) rfl) inferInstance | exact OpP.load1 (Val.lz rfl) (fun _ => .own (Take.cons (Take.cons (Take.cons (Take.cons Take.head)))) rfl) inferInstance | exact OpP.load1 (Val.lz rfl) (fun _ => .own (Take.app Take.head) rfl) inferInstance | exact OpP.load1 (Val.lz rfl) (fun _ => .own (Take.app (Take.cons Take.head)) rfl) inferInstance | exact OpP.load1 (Val.lz rfl) (fun _ => .own (Take.cons (Take.app Take.head)) rfl) inferInstance | exact OpP.load1 (Val.lz rfl) (fun _ => .own (Take.app (Take.cons (Take.cons Take.head))) rfl) inferInstance | exact OpP.load1 (Val.lz rfl) (fun _ => .own (Take.cons (Take.app (Take.cons Take.head))) rfl) inferInstance | exact OpP.load1 (Val.lz rfl) (fun _ => .own (Take.cons (Take.cons (Take.app Take.head))) rfl) inferInstance | exact OpP.load1 (Val.lz rfl) (fun _ => .own (Take.app (Take.cons (Take.cons (Take.cons Take.head)))) rfl) inferInstance | exact OpP.load1 (Val.lz rfl) (fun _ => .own (Take.cons (Take.app (Take.cons (Take.cons Take.head)))) rfl) inferInstance | exact OpP.load1 (Val.lz rfl) (fun _ => .own (Take.cons (Take.cons (Take.app (Take.cons Take.head)))) rfl) inferInstance | exact OpP.load1 (Val.lz rfl) (fun _ => .own (Take.cons (Take.cons (Take.cons (Take.app Take.head)))) rfl) inferInstance | exact OpP.load1 (Val.lz rfl) (fun _ => .inl (by assumption)) inferInstance)) ?_
      refine RunL.pure rfl rfl (OpG.onF rfl rfl rfl (OpP.bin (Val.lz rfl) (Val.lz rfl) rfl)) ?_
      refine RunL.pure rfl rfl (OpG.onF rfl rfl rfl (OpP.move (Val.lz rfl))) ?_
      refine RunL.pure rfl rfl (OpG.onT' rfl rfl rfl (OpP.move (Val.of rfl))) ?_
      refine RunL.pure rfl rfl (OpG.onT' rfl rfl rfl (OpP.move (Val.of rfl))) ?_
      refine RunL.pure rfl rfl (OpG.onT' rfl rfl rfl (OpP.call (by kernel_rfl) (.cons (Val.lz rfl) (.cons (Val.lz rfl) .nil)) (fun hA => by first | (have hct := ref13_Same hs4 hs6'; exact hct) | exact ref13_Same hs4 hs6'))) ?_
      refine RunL.pure rfl rfl (OpG.onT' rfl rfl rfl (OpP.not (Val.lz rfl))) ?_
      refine RunL.pure rfl rfl (OpG.onF rfl rfl rfl (OpP.pick_and' rfl rfl rfl)) ?_
      refine RunL.pure rfl rfl (OpG.plain rfl (OpP.pick_or rfl rfl rfl)) ?_
      refine RunL.nil ?_
      refine RunQ.then_normal ?_
      refine Run.cond rfl (fun hc2 => ?_) (fun hc2 => ?_)
      · exfalso
        obtain ⟨g1, g2⟩ := setWrite_free (s := (setWrite [] l).1) (a := a) (b := b)
        have h2 : ((setWrite (setWrite [] l).1 [a, b]).2 != (setWrite (setWrite [] l).1 [b, a]).2 || (a.typ != b.typ && !actsSame (setWrite (setWrite [] l).1 [a, b]).1 (setWrite (setWrite [] l).1 [b, a]).1)) = true := hc2
        rw [g1] at h2
        simp only [bne_self_eq_false, Bool.false_or, Bool.and_eq_true, bne_iff_ne, ne_eq] at h2
        rw [g2 h2.1, actsSame_refl] at h2
        cases h2.2 
      · refine Run.skip ?_
        refine RunQ.then_normal ?_
        refine Run.seq ?_
        refine Run.region' ?_
        refine RunL.pure rfl rfl (OpG.plain rfl (OpP.move (Val.of rfl))) ?_
        obtain ⟨X, hX⟩ : ∃ X, X = (setWrite (setWrite [] l).1 [a, b]).1 := ⟨_, rfl⟩
        have hXr := write_right (set := (setWrite [] l).1) (l := [a, b])
        have hXS := write_small hxS habS
        rw [← hX] at hs4 hXr hXS
        have hn4 := hs4.n
        have hsm4 := hs4.small
        refine RunL.call rfl (by kernel_rfl) rfl Take.nothing (actset_Plan hs4 hXS) (fun v h7 N7 hle7 hx7 => ?_)
        obtain ⟨hN7, s7, hv7, hs7⟩ := hx7
        subst hN7 hv7
        replace hs4 := hs4.mono hle7
        have hn7 := hs7.n
        have hpl := setPlan_length X
        have hps := setPlan_short hXr
        have hpr := setPlan_ranks X
        obtain ⟨p, hp⟩ : ∃ p, p = setPlan X := ⟨_, rfl⟩
        have hpg : actsHas X 22 = true → ∀ x ∈ p, ¬ x.typ = 0 := fun hh => by rw [hp]; exact setPlan_group hh
        rw [← hp] at hs7 hn7 hpl hps hpr
        refine RunL.pure rfl rfl (OpG.plain rfl (OpP.assign (Val.of rfl))) ?_
        refine RunL.nil ?_
        refine RunQ.then_normal ?_
        refine Run.seq ?_
        refine Run.region' ?_
        refine RunL.pure rfl rfl (OpG.plain rfl (OpP.assign (Val.of rfl))) ?_
        refine RunL.nil ?_
        refine RunQ.then_normal ?_
        refine Run.seq ?_
        refine Run.seq ?_
        refine Run.region' ?_
        refine RunL.pure rfl rfl (OpG.plain rfl (OpP.assign (Val.of rfl))) ?_
        refine RunL.nil ?_
        refine RunQ.then_normal ?_
        refine Run.block ?_
        refine Run.loopT (fun q E h' L' => ∃ k : Nat, k ≤ X.length ∧ q = X.length - k ∧ h' = h7 ∧ L' = [] ∧ E = [(9, s4.v), (13, s7.v), (15, i64v (k : Int)), (14, .bool (actsHas (X.take k) 22))]) X.length ⟨0, Nat.zero_le _, rfl, rfl, rfl, rfl⟩ ⟨rfl, rfl, rfl, rfl, trivial⟩ Take.nothing ?_
        rintro q E1 h9 L1 ⟨k, hk, rfl, rfl, rfl, rfl⟩
        refine Run.seq ?_
        refine Run.seq ?_
        refine Run.region' ?_
        refine RunL.pure rfl rfl (OpG.plain rfl (OpP.move (Val.of rfl))) ?_
        refine RunL.pure rfl rfl (OpG.plain rfl (OpP.move (Val.of rfl))) ?_
        refine RunL.pure rfl rfl (OpG.plain rfl (OpP.lenSl (Val.of rfl) inferInstance)) ?_
        refine RunL.pure rfl rfl (OpG.plain rfl (OpP.bin (Val.of rfl) (Val.of rfl) rfl)) ?_
        refine RunL.nil ?_
        refine RunQ.then_normal ?_
        refine Run.cond rfl (fun hc3 => ?_) (fun hc3 => ?_)
        · have hlt : k < X.length := by simp only [decide_eq_true_eq] at hc3; omega
          obtain ⟨bx, ox, cx, rfl, hlex, hcellx⟩ := hs4.at (by intro e; rw [e] at hlt; simp at hlt)
          obtain ⟨svx, smx, sdx, hox, hx⟩ := hcellx k hlt
          refine Run.skip ?_
          refine RunQ.then_normal ?_
          refine Run.seq ?_
          refine Run.block ?_
          refine Run.region' ?_
          refine RunL.pure rfl rfl (OpG.plain rfl (OpP.move (Val.of rfl))) ?_
          refine RunL.pure rfl rfl (OpG.plain rfl (OpP.move (Val.of rfl))) ?_
          refine RunL.pure rfl rfl (OpG.onF rfl rfl rfl (OpP.move (Val.of rfl))) ?_
          refine RunL.pure rfl rfl (OpG.onF rfl rfl rfl (OpP.move (Val.of rfl))) ?_
          refine RunL.pure rfl rfl (OpG.onF rfl rfl rfl (by first | exact OpP.indexSl (Val.lz rfl) (Val.lz rfl) (fun _ => by omega) inferInstance inferInstance | exact OpP.indexI (Val.lz rfl) (Val.lz rfl) (fun _ => by omega) (fun _ => by omega) inferInstance inferInstance)) ?_
          refine RunL.pure rfl rfl (OpG.onF rfl rfl rfl (OpP.fieldAddr (Val.lz rfl) inferInstance)) ?_
          refine RunL.pure rfl rfl (OpG.onF rfl rfl rfl (OpP.load1 (Val.lz rfl) (fun hA => .inl (by have := hx 0 (i64v X[k].typ) rfl; simpa using this)) inferInstance)) ?_
          refine RunL.pure rfl rfl (OpG.onF rfl rfl rfl (OpP.bin (Val.lz rfl) (Val.of rfl) rfl)) ?_
          refine RunL.pure rfl rfl (OpG.plain rfl (OpP.pick_or rfl rfl rfl)) ?_
          refine RunL.pure rfl rfl (OpG.plain rfl (OpP.assign (Val.of rfl))) ?_
          refine RunL.nil ?_
          refine RunQ.block_normal ?_
          refine RunQ.then_normal ?_
          refine Run.region' ?_
          refine RunL.pure rfl rfl (OpG.plain rfl (OpP.move (Val.of rfl))) ?_
          refine RunL.pure rfl rfl (OpG.plain rfl (by first | exact OpP.add64 (Val.of rfl) (Val.of rfl) (by omega) (by omega) | exact OpP.bin (Val.of rfl) (Val.of rfl) rfl)) ?_
          refine RunL.pure rfl rfl (OpG.plain rfl (OpP.assign (Val.of rfl))) ?_
          refine RunL.nil ?_
          refine RunQ.againT (X.length - (k + 1)) (by omega) ⟨k + 1, by omega, rfl, rfl, rfl, rfl⟩ ⟨rfl, rfl, rfl, ?_, trivial⟩ Take.whole
          unfold actsHas
          rw [List.take_succ_eq_append_getElem hlt, List.any_append]
          simp only [List.any_cons, List.any_nil, Bool.or_false]
          rfl
        · have hge : k = X.length := by simp only [decide_eq_false_iff_not] at hc3; omega
          refine Run.exit ?_
          refine RunQ.then_exit ?_
          refine RunQ.then_exit ?_
          refine RunQ.block_exit ?_
          refine RunQ.then_normal ?_
          refine Run.seq ?_
          refine Run.seq ?_
          refine Run.region' ?_
          refine RunL.pure rfl rfl (OpG.plain rfl (OpP.assign (Val.of rfl))) ?_
          refine RunL.nil ?_
          refine RunQ.then_normal ?_
          refine Run.block ?_
          rw [hge, List.take_length]
          refine Run.loopT (fun q E h' L' => ∃ k : Nat, k ≤ p.length ∧ q = p.length - k ∧ h' = h9 ∧ L' = [] ∧ E = [(9, s4.v), (13, s7.v), (16, i64v (k : Int)), (14, .bool (actsHas X 22))]) p.length ⟨0, Nat.zero_le _, rfl, rfl, rfl, rfl⟩ ⟨rfl, rfl, rfl, rfl, trivial⟩ Take.nothing ?_
          rintro q E1 h10 L1 ⟨j, hj, rfl, rfl, rfl, rfl⟩
          refine Run.seq ?_
          refine Run.seq ?_
          refine Run.region' ?_
          refine RunL.pure rfl rfl (OpG.plain rfl (OpP.move (Val.of rfl))) ?_
          refine RunL.pure rfl rfl (OpG.plain rfl (OpP.move (Val.of rfl))) ?_
          refine RunL.pure rfl rfl (OpG.plain rfl (OpP.lenSl (Val.of rfl) inferInstance)) ?_
          refine RunL.pure rfl rfl (OpG.plain rfl (OpP.bin (Val.of rfl) (Val.of rfl) rfl)) ?_
          refine RunL.nil ?_
          refine RunQ.then_normal ?_
          refine Run.cond rfl (fun hc4 => ?_) (fun hc4 => ?_)
          · have hlt : j < p.length := by simp only [decide_eq_true_eq] at hc4; omega
            obtain ⟨bx, ox, cx, rfl, hlex, hcellx⟩ := hs7.at (by intro e; rw [e] at hlt; simp at hlt)
            obtain ⟨svx, smx, sdx, hox, hx⟩ := hcellx j hlt
            obtain ⟨sv0, sm0, sd0, hprev⟩ : ∃ sv0 sm0 sd0 : Sl, 0 < j → Cells h10 bx (ox + ((j : Int) - 1).toNat * 10) (actC p[j - 1]! sv0 sm0 sd0) := by
              by_cases h0 : 0 < j
              · obtain ⟨sv0, sm0, sd0, _, g2⟩ := hcellx (j - 1) (by omega)
                refine ⟨sv0, sm0, sd0, fun _ => ?_⟩
                rw [getElem!_pos p (j - 1) (by omega), show ((j : Int) - 1).toNat = j - 1 by omega]
                exact g2
              · exact ⟨Sl.none, Sl.none, Sl.none, fun h => absurd h h0⟩
            refine Run.skip ?_
            refine RunQ.then_normal ?_
            refine Run.seq ?_
            refine Run.block ?_
            refine Run.seq ?_
            apply Run.drawn 27 [_, _, _, _, _, _, _, _, _, _, _, _, _, _, _, _, _, _, _, _, _, _, _, _, _, _, _] (by kernel_rfl) rfl (by kernel_rfl)
            · refine FrontOk.cons (OpG.plain rfl (OpP.move (Val.of rfl))) ?_
              refine FrontOk.cons (OpG.plain rfl (OpP.bin (Val.of rfl) (Val.of rfl) rfl)) ?_
              refine FrontOk.cons (OpG.plain rfl (OpP.move (Val.of rfl))) ?_
              refine FrontOk.cons (OpG.onT rfl rfl rfl (OpP.move (Val.of rfl))) ?_
              refine FrontOk.cons (OpG.onT rfl rfl rfl (OpP.move (Val.of rfl))) ?_
              refine FrontOk.cons (OpG.onT rfl rfl rfl (by first | exact OpP.indexSl (Val.lz rfl) (Val.lz rfl) (fun _ => by omega) inferInstance inferInstance | exact OpP.indexI (Val.lz rfl) (Val.lz rfl) (fun _ => by omega) (fun _ => by omega) inferInstance inferInstance)) ?_
              refine FrontOk.cons (OpG.onT rfl rfl rfl (OpP.loadN (Val.lz rfl) (fun hA => ReadsAll.ghost hx) rfl inferInstance)) ?_
              refine FrontOk.cons (OpG.onT rfl rfl rfl (OpP.call (by kernel_rfl) (.cons (Val.lz rfl) .nil) (fun hA => by first | (have hct := actset_Rank; exact hct) | exact actset_Rank))) ?_
              refine FrontOk.cons (OpG.onT rfl rfl rfl (OpP.move (Val.of rfl))) ?_
              refine FrontOk.cons (OpG.onT rfl rfl rfl (OpP.move (Val.of rfl))) ?_
              refine FrontOk.cons (OpG.onT rfl rfl rfl (OpP.sub64 (Val.lz rfl) (Val.of rfl) (by omega) (by omega))) ?_
              refine FrontOk.cons (OpG.onT rfl rfl rfl (OpP.indexI (Val.lz rfl) (Val.lz rfl) (fun hA => by simp only [decide_eq_true_eq] at hA; omega) (fun hA => by omega) inferInstance inferInstance)) ?_
              refine FrontOk.cons (OpG.onT rfl rfl rfl (OpP.loadN (Val.lz rfl) (fun hA => ReadsAll.ghost (hprev (by simp only [decide_eq_true_eq] at hA; omega))) rfl inferInstance)) ?_
              refine FrontOk.cons (OpG.onT rfl rfl rfl (OpP.call (by kernel_rfl) (.cons (Val.lz rfl) .nil) (fun hA => by first | (have hct := actset_Rank; exact hct) | exact actset_Rank))) ?_
              refine FrontOk.cons (OpG.onT rfl rfl rfl (OpP.bin (Val.lz rfl) (Val.lz rfl) rfl)) ?_
              refine FrontOk.cons (OpG.plain rfl (OpP.pick_and rfl rfl rfl)) ?_
              refine FrontOk.cons (OpG.plain rfl (OpP.move (Val.of rfl))) ?_
              refine FrontOk.cons (OpG.onF rfl rfl rfl (OpP.move (Val.of rfl))) ?_
              refine FrontOk.cons (OpG.onF rfl rfl rfl (OpP.move (Val.lz rfl))) ?_
              refine FrontOk.cons (OpG.onT' rfl rfl rfl (OpP.move (Val.of rfl))) ?_
              refine FrontOk.cons (OpG.onT' rfl rfl rfl (OpP.move (Val.of rfl))) ?_
              refine FrontOk.cons (OpG.onT' rfl rfl rfl (by first | exact OpP.indexSl (Val.lz rfl) (Val.lz rfl) (fun _ => by omega) inferInstance inferInstance | exact OpP.indexI (Val.lz rfl) (Val.lz rfl) (fun _ => by omega) (fun _ => by omega) inferInstance inferInstance)) ?_
              refine FrontOk.cons (OpG.onT' rfl rfl rfl (OpP.fieldAddr (Val.lz rfl) inferInstance)) ?_
              refine FrontOk.cons (OpG.onT' rfl rfl rfl (OpP.load1 (Val.lz rfl) (fun hA => .inl (by have := hx 0 (i64v p[j].typ) rfl; simpa using this)) inferInstance)) ?_
              refine FrontOk.cons (OpG.onT' rfl rfl rfl (OpP.bin (Val.lz rfl) (Val.of rfl) rfl)) ?_
              refine FrontOk.cons (OpG.onF rfl rfl rfl (OpP.pick_and' rfl rfl rfl)) ?_
              refine FrontOk.cons (OpG.plain rfl (OpP.pick_or rfl rfl rfl)) ?_
              exact FrontOk.nil
            · rfl
            · rfl
            refine RunL.nil ?_
            refine RunQ.then_normal ?_
            refine Run.cond rfl (fun hc5 => ?_) (fun hc5 => ?_)
            · exfalso
              have h5 : ((decide ((j : Int) > 0) && decide (rankOf p[j].typ < rankOf p[j - 1]!.typ)) || (actsHas X 22 && p[j].typ == 0)) = true := hc5
              simp only [Bool.or_eq_true, Bool.and_eq_true, decide_eq_true_eq, beq_iff_eq] at h5
              rcases h5 with ⟨h6, h7⟩ | ⟨h6, h7⟩
              · rw [getElem!_pos p (j - 1) (by omega)] at h7
                have := List.pairwise_iff_getElem.1 hpr (j - 1) j (by omega) hlt (by omega)
                omega
              · exact hpg h6 _ (List.getElem_mem hlt) h7 
            · refine Run.skip ?_
              refine RunQ.block_normal ?_
              refine RunQ.then_normal ?_
              refine Run.region' ?_
              refine RunL.pure rfl rfl (OpG.plain rfl (OpP.move (Val.of rfl))) ?_
              refine RunL.pure rfl rfl (OpG.plain rfl (by first | exact OpP.add64 (Val.of rfl) (Val.of rfl) (by omega) (by omega) | exact OpP.bin (Val.of rfl) (Val.of rfl) rfl)) ?_
              refine RunL.pure rfl rfl (OpG.plain rfl (OpP.assign (Val.of rfl))) ?_
              refine RunL.nil ?_
              exact RunQ.againT (p.length - (j + 1)) (by omega) ⟨j + 1, by omega, rfl, rfl, rfl, rfl⟩ ⟨rfl, rfl, rfl, rfl, trivial⟩ Take.whole
          · have hge2 : j = p.length := by simp only [decide_eq_false_iff_not] at hc4; omega
            refine Run.exit ?_
            refine RunQ.then_exit ?_
            refine RunQ.then_exit ?_
            refine RunQ.block_exit ?_
            refine RunQ.then_normal ?_
            refine Run.seq ?_
            refine Run.region' ?_
            refine RunL.pure rfl rfl (OpG.plain rfl (OpP.move (Val.of rfl))) ?_
            refine RunL.pure rfl rfl (OpG.plain rfl (OpP.lenSl (Val.of rfl) inferInstance)) ?_
            refine RunL.pure rfl rfl (OpG.plain rfl (OpP.move (Val.of rfl))) ?_
            refine RunL.pure rfl rfl (OpG.plain rfl (OpP.lenSl (Val.of rfl) inferInstance)) ?_
            refine RunL.pure rfl rfl (OpG.plain rfl (OpP.bin (Val.of rfl) (Val.of rfl) rfl)) ?_
            refine RunL.pure rfl rfl (OpG.plain rfl (OpP.move (Val.of rfl))) ?_
            refine RunL.pure rfl rfl (OpG.onT rfl rfl rfl (OpP.move (Val.of rfl))) ?_
            refine RunL.pure rfl rfl (OpG.onT rfl rfl rfl (OpP.lenSl (Val.lz rfl) inferInstance)) ?_
            refine RunL.pure rfl rfl (OpG.onT rfl rfl rfl (OpP.move (Val.of rfl))) ?_
            refine RunL.pure rfl rfl (OpG.onT rfl rfl rfl (OpP.lenSl (Val.lz rfl) inferInstance)) ?_
            refine RunL.pure rfl rfl (OpG.onT rfl rfl rfl (by first | exact OpP.sub64 (Val.lz rfl) (Val.of rfl) (by omega) (by omega) | exact OpP.bin (Val.lz rfl) (Val.of rfl) rfl)) ?_
            refine RunL.pure rfl rfl (OpG.onT rfl rfl rfl (OpP.bin (Val.lz rfl) (Val.lz rfl) rfl)) ?_
            refine RunL.pure rfl rfl (OpG.plain rfl (OpP.pick_and rfl rfl rfl)) ?_
            refine RunL.pure rfl rfl (OpG.plain rfl (OpP.move (Val.of rfl))) ?_
            refine RunL.pure rfl rfl (OpG.onT rfl rfl rfl (OpP.call (by kernel_rfl) .nil (fun hA => by first | (have hct := law14_sure; exact hct) | exact law14_sure))) ?_
            refine RunL.pure rfl rfl (OpG.plain rfl (OpP.pick_and rfl rfl rfl)) ?_
            refine RunL.pure rfl rfl (OpG.plain rfl (OpP.assign (Val.of rfl))) ?_
            refine RunL.nil ?_
            refine RunQ.then_normal ?_
            refine Run.ret ?_
            refine RunQ.ret1 rfl rfl ?_
            have g1 : decide ((s7.n : Int) ≤ (s4.n : Int)) = true := by simp; omega
            have g2 : decide ((s7.n : Int) ≥ (s4.n : Int) - 1) = true := by simp; omega
            show Value.bool ((decide ((s7.n : Int) ≤ (s4.n : Int)) && decide ((s7.n : Int) ≥ (s4.n : Int) - 1)) && true) = _
            rw [g1, g2]; rfl
end Go.Proofs.YtcckofgleghbgaaDoor
