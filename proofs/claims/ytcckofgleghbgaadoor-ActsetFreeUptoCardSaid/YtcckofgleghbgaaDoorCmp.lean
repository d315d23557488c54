/- Contracts: package cmp at int and uint64. -/
import Derived.Test.YtcckofgleghbgaaDoorDat
namespace Go.Proofs.YtcckofgleghbgaaDoor
open Go Sx
set_option maxRecDepth 100000 in
theorem cmp_isNaN {h : GH} {a : Int} : Ctr Tryd.prog 90 [i64v a].toArray h [] fun r _ _ => r = .bool false := by
  refine Ctr.of_run Tryd.func90 rfl rfl rfl fun w0 => ?_
  refine Run.seq ?_
  refine Run.region' ?_
  refine RunL.pure rfl rfl (OpG.plain rfl (OpP.assign (Val.of rfl))) ?_
  refine RunL.nil ?_
  refine RunQ.then_normal ?_
  refine Run.seq ?_
  refine Run.region' ?_
  refine RunL.pure rfl rfl (OpG.plain rfl (OpP.move (Val.of rfl))) ?_
  refine RunL.pure rfl rfl (OpG.plain rfl (OpP.move (Val.of rfl))) ?_
  refine RunL.pure rfl rfl (OpG.plain rfl (OpP.bin (Val.of rfl) (Val.of rfl) rfl)) ?_
  refine RunL.pure rfl rfl (OpG.plain rfl (OpP.assign (Val.of rfl))) ?_
  refine RunL.nil ?_
  refine RunQ.then_normal ?_
  refine Run.ret ?_
  refine RunQ.ret1 rfl rfl ?_
  simp
def cmpI (a b : Int) : Int := if a < b then -1 else if a > b then 1 else 0
set_option maxRecDepth 100000 in
theorem cmp_Compare {h : GH} {a b : Int} : Ctr Tryd.prog 72 [i64v a, i64v b].toArray h [] fun r _ _ => r = i64v (cmpI a b) := by
  refine Ctr.of_run Tryd.func72 rfl rfl rfl fun w0 => ?_
  refine Run.seq ?_
  refine Run.region' ?_
  refine RunL.pure rfl rfl (OpG.plain rfl (OpP.assign (Val.of rfl))) ?_
  refine RunL.nil ?_
  refine RunQ.then_normal ?_
  refine Run.seq ?_
  refine Run.region' ?_
  refine RunL.pure rfl rfl (OpG.plain rfl (OpP.move (Val.of rfl))) ?_
  refine RunL.pure rfl rfl (OpG.plain rfl (OpP.call (by kernel_rfl) (.cons (Val.of rfl) .nil) (fun hA => by first | (have hct := cmp_isNaN; exact hct) | exact cmp_isNaN))) ?_
  refine RunL.pure rfl rfl (OpG.plain rfl (OpP.assign (Val.of rfl))) ?_
  refine RunL.nil ?_
  refine RunQ.then_normal ?_
  refine Run.seq ?_
  refine Run.region' ?_
  refine RunL.pure rfl rfl (OpG.plain rfl (OpP.move (Val.of rfl))) ?_
  refine RunL.pure rfl rfl (OpG.plain rfl (OpP.call (by kernel_rfl) (.cons (Val.of rfl) .nil) (fun hA => by first | (have hct := cmp_isNaN; exact hct) | exact cmp_isNaN))) ?_
  refine RunL.pure rfl rfl (OpG.plain rfl (OpP.assign (Val.of rfl))) ?_
  refine RunL.nil ?_
  refine RunQ.then_normal ?_
  refine Run.seq ?_
  refine Run.seq ?_
  refine Run.region' ?_
  refine RunL.pure rfl rfl (OpG.plain rfl (OpP.move (Val.of rfl))) ?_
  refine RunL.nil ?_
  refine RunQ.then_normal ?_
  refine Run.cond_false rfl ?_
  refine Run.skip ?_
  refine RunQ.then_normal ?_
  refine Run.seq ?_
  refine Run.seq ?_
  refine Run.region' ?_
  refine RunL.pure rfl rfl (OpG.plain rfl (OpP.move (Val.of rfl))) ?_
  refine RunL.nil ?_
  refine RunQ.then_normal ?_
  refine Run.cond_false rfl ?_
  refine Run.skip ?_
  refine RunQ.then_normal ?_
  refine Run.seq ?_
  refine Run.seq ?_
  refine Run.region' ?_
  refine RunL.pure rfl rfl (OpG.plain rfl (OpP.move (Val.of rfl))) ?_
  refine RunL.pure rfl rfl (OpG.plain rfl (OpP.move (Val.of rfl))) ?_
  refine RunL.pure rfl rfl (OpG.plain rfl (OpP.bin (Val.of rfl) (Val.of rfl) rfl)) ?_
  refine RunL.nil ?_
  refine RunQ.then_normal ?_
  refine Run.cond rfl (fun hc2 => ?_) (fun hc2 => ?_)
  · have h3 : a < b := by simpa using hc2
    refine Run.seq ?_
    refine Run.region' ?_
    refine RunL.pure rfl rfl (OpG.plain rfl (OpP.assign (Val.of rfl))) ?_
    refine RunL.nil ?_
    refine RunQ.then_normal ?_
    refine Run.ret ?_
    refine RunQ.then_ret ?_
    refine RunQ.ret1 rfl rfl ?_
    unfold cmpI; rw [if_pos h3]
  · have h3 : ¬ a < b := by simpa using hc2
    refine Run.skip ?_
    refine RunQ.then_normal ?_
    refine Run.seq ?_
    refine Run.seq ?_
    refine Run.region' ?_
    refine RunL.pure rfl rfl (OpG.plain rfl (OpP.move (Val.of rfl))) ?_
    refine RunL.pure rfl rfl (OpG.plain rfl (OpP.move (Val.of rfl))) ?_
    refine RunL.pure rfl rfl (OpG.plain rfl (OpP.bin (Val.of rfl) (Val.of rfl) rfl)) ?_
    refine RunL.nil ?_
    refine RunQ.then_normal ?_
    refine Run.cond rfl (fun hc3 => ?_) (fun hc3 => ?_)
    · have h4 : a > b := by simpa using hc3
      refine Run.seq ?_
      refine Run.region' ?_
      refine RunL.pure rfl rfl (OpG.plain rfl (OpP.assign (Val.of rfl))) ?_
      refine RunL.nil ?_
      refine RunQ.then_normal ?_
      refine Run.ret ?_
      refine RunQ.then_ret ?_
      refine RunQ.ret1 rfl rfl ?_
      unfold cmpI; rw [if_neg h3, if_pos h4]
    · have h4 : ¬ a > b := by simpa using hc3
      refine Run.skip ?_
      refine RunQ.then_normal ?_
      refine Run.seq ?_
      refine Run.region' ?_
      refine RunL.pure rfl rfl (OpG.plain rfl (OpP.assign (Val.of rfl))) ?_
      refine RunL.nil ?_
      refine RunQ.then_normal ?_
      refine Run.ret ?_
      refine RunQ.ret1 rfl rfl ?_
      unfold cmpI; rw [if_neg h3, if_neg h4]
set_option maxRecDepth 100000 in
theorem cmp_isNaNu {h : GH} {a : UInt64} : Ctr Tryd.prog 91 [u64v a].toArray h [] fun r _ _ => r = .bool false := by
  refine Ctr.of_run Tryd.func91 rfl rfl rfl fun w0 => ?_
  refine Run.seq ?_
  refine Run.region' ?_
  refine RunL.pure rfl rfl (OpG.plain rfl (OpP.assign (Val.of rfl))) ?_
  refine RunL.nil ?_
  refine RunQ.then_normal ?_
  refine Run.seq ?_
  refine Run.region' ?_
  refine RunL.pure rfl rfl (OpG.plain rfl (OpP.move (Val.of rfl))) ?_
  refine RunL.pure rfl rfl (OpG.plain rfl (OpP.move (Val.of rfl))) ?_
  refine RunL.pure rfl rfl (OpG.plain rfl (by first | exact OpP.neq_u64 (Val.of rfl) (Val.of rfl) | exact OpP.bin (Val.of rfl) (Val.of rfl) rfl)) ?_
  refine RunL.pure rfl rfl (OpG.plain rfl (OpP.assign (Val.of rfl))) ?_
  refine RunL.nil ?_
  refine RunQ.then_normal ?_
  refine Run.ret ?_
  refine RunQ.ret1 rfl rfl ?_
  simp
def cmpU (a b : UInt64) : Int := cmpI a.toNat b.toNat
set_option maxRecDepth 100000 in
theorem cmp_Compareu {h : GH} {a b : UInt64} : Ctr Tryd.prog 73 [u64v a, u64v b].toArray h [] fun r _ _ => r = i64v (cmpU a b) := by
  refine Ctr.of_run Tryd.func73 rfl rfl rfl fun w0 => ?_
  refine Run.seq ?_
  refine Run.region' ?_
  refine RunL.pure rfl rfl (OpG.plain rfl (OpP.assign (Val.of rfl))) ?_
  refine RunL.nil ?_
  refine RunQ.then_normal ?_
  refine Run.seq ?_
  refine Run.region' ?_
  refine RunL.pure rfl rfl (OpG.plain rfl (OpP.move (Val.of rfl))) ?_
  refine RunL.pure rfl rfl (OpG.plain rfl (OpP.call (by kernel_rfl) (.cons (Val.of rfl) .nil) (fun hA => by first | (have hct := cmp_isNaNu; exact hct) | exact cmp_isNaNu))) ?_
  refine RunL.pure rfl rfl (OpG.plain rfl (OpP.assign (Val.of rfl))) ?_
  refine RunL.nil ?_
  refine RunQ.then_normal ?_
  refine Run.seq ?_
  refine Run.region' ?_
  refine RunL.pure rfl rfl (OpG.plain rfl (OpP.move (Val.of rfl))) ?_
  refine RunL.pure rfl rfl (OpG.plain rfl (OpP.call (by kernel_rfl) (.cons (Val.of rfl) .nil) (fun hA => by first | (have hct := cmp_isNaNu; exact hct) | exact cmp_isNaNu))) ?_
  refine RunL.pure rfl rfl (OpG.plain rfl (OpP.assign (Val.of rfl))) ?_
  refine RunL.nil ?_
  refine RunQ.then_normal ?_
  refine Run.seq ?_
  refine Run.seq ?_
  refine Run.region' ?_
  refine RunL.pure rfl rfl (OpG.plain rfl (OpP.move (Val.of rfl))) ?_
  refine RunL.nil ?_
  refine RunQ.then_normal ?_
  refine Run.cond_false rfl ?_
  refine Run.skip ?_
  refine RunQ.then_normal ?_
  refine Run.seq ?_
  refine Run.seq ?_
  refine Run.region' ?_
  refine RunL.pure rfl rfl (OpG.plain rfl (OpP.move (Val.of rfl))) ?_
  refine RunL.nil ?_
  refine RunQ.then_normal ?_
  refine Run.cond_false rfl ?_
  refine Run.skip ?_
  refine RunQ.then_normal ?_
  refine Run.seq ?_
  refine Run.seq ?_
  refine Run.region' ?_
  refine RunL.pure rfl rfl (OpG.plain rfl (OpP.move (Val.of rfl))) ?_
  refine RunL.pure rfl rfl (OpG.plain rfl (OpP.move (Val.of rfl))) ?_
  refine RunL.pure rfl rfl (OpG.plain rfl (OpP.bin (Val.of rfl) (Val.of rfl) rfl)) ?_
  refine RunL.nil ?_
  refine RunQ.then_normal ?_
  refine Run.cond rfl (fun hc2 => ?_) (fun hc2 => ?_)
  · have h3 : (a.toNat : Int) < b.toNat := by simpa using hc2
    refine Run.seq ?_
    refine Run.region' ?_
    refine RunL.pure rfl rfl (OpG.plain rfl (OpP.assign (Val.of rfl))) ?_
    refine RunL.nil ?_
    refine RunQ.then_normal ?_
    refine Run.ret ?_
    refine RunQ.then_ret ?_
    refine RunQ.ret1 rfl rfl ?_
    unfold cmpU cmpI; rw [if_pos h3]
  · have h3 : ¬ (a.toNat : Int) < b.toNat := by simpa using hc2
    refine Run.skip ?_
    refine RunQ.then_normal ?_
    refine Run.seq ?_
    refine Run.seq ?_
    refine Run.region' ?_
    refine RunL.pure rfl rfl (OpG.plain rfl (OpP.move (Val.of rfl))) ?_
    refine RunL.pure rfl rfl (OpG.plain rfl (OpP.move (Val.of rfl))) ?_
    refine RunL.pure rfl rfl (OpG.plain rfl (OpP.bin (Val.of rfl) (Val.of rfl) rfl)) ?_
    refine RunL.nil ?_
    refine RunQ.then_normal ?_
    refine Run.cond rfl (fun hc3 => ?_) (fun hc3 => ?_)
    · have h4 : (a.toNat : Int) > b.toNat := by simpa using hc3
      refine Run.seq ?_
      refine Run.region' ?_
      refine RunL.pure rfl rfl (OpG.plain rfl (OpP.assign (Val.of rfl))) ?_
      refine RunL.nil ?_
      refine RunQ.then_normal ?_
      refine Run.ret ?_
      refine RunQ.then_ret ?_
      refine RunQ.ret1 rfl rfl ?_
      unfold cmpU cmpI; rw [if_neg h3, if_pos h4]
    · have h4 : ¬ (a.toNat : Int) > b.toNat := by simpa using hc3
      refine Run.skip ?_
      refine RunQ.then_normal ?_
      refine Run.seq ?_
      refine Run.region' ?_
      refine RunL.pure rfl rfl (OpG.plain rfl (OpP.assign (Val.of rfl))) ?_
      refine RunL.nil ?_
      refine RunQ.then_normal ?_
      refine Run.ret ?_
      refine RunQ.ret1 rfl rfl ?_
      unfold cmpU cmpI; rw [if_neg h3, if_neg h4]
def orGo : List Int → Int
  | [] => 0
  | a :: l => if a != 0 then a else orGo l
set_option maxRecDepth 100000 in
theorem cmp_Or {h : GH} {s : Sl} {l : List Int} (hs : IsInts h s l) : Ctr Tryd.prog 71 [s.v].toArray h [] fun r _ _ => r = i64v (orGo l) := by
  have hn := hs.n
  have hsm := hs.small
  refine Ctr.of_run Tryd.func71 rfl rfl rfl fun w0 => ?_
  refine Run.seq ?_
  refine Run.region' ?_
  refine RunL.pure rfl rfl (OpG.plain rfl (OpP.assign (Val.of rfl))) ?_
  refine RunL.nil ?_
  refine RunQ.then_normal ?_
  refine Run.seq ?_
  refine Run.region' ?_
  refine RunL.pure rfl rfl (OpG.plain rfl (OpP.assign (Val.of rfl))) ?_
  refine RunL.nil ?_
  refine RunQ.then_normal ?_
  refine Run.seq ?_
  refine Run.seq ?_
  refine Run.region' ?_
  refine RunL.pure rfl rfl (OpG.plain rfl (OpP.move (Val.of rfl))) ?_
  refine RunL.pure rfl rfl (OpG.plain rfl (OpP.lenSl (Val.of rfl) inferInstance)) ?_
  refine RunL.pure rfl rfl (OpG.plain rfl (OpP.move (Val.of rfl))) ?_
  refine RunL.nil ?_
  refine RunQ.then_normal ?_
  refine Run.block ?_
  refine Run.loopT (fun m E h' L' => ∃ k : Nat, k ≤ l.length ∧ m = l.length - k ∧ h' = h ∧ L' = [] ∧ orGo l = orGo (l.drop k) ∧ E = [(3, i64v 0), (6, s.v), (7, .int .i64 (s.n : Int)), (8, i64v (k : Int))]) l.length ⟨0, Nat.zero_le _, rfl, rfl, rfl, rfl, rfl⟩ ⟨rfl, rfl, rfl, rfl, trivial⟩ Take.whole ?_
  rintro m E1 h1 L1 ⟨k, hk, rfl, rfl, rfl, hz, rfl⟩
  refine Run.seq ?_
  refine Run.region' ?_
  refine RunL.pure rfl rfl (OpG.plain rfl (OpP.bin (Val.of rfl) (Val.of rfl) rfl)) ?_
  refine RunL.nil ?_
  refine RunQ.then_normal ?_
  refine Run.seq ?_
  refine Run.cond rfl (fun hc0 => ?_) (fun hc0 => ?_)
  · have hlt : k < l.length := by simp only [decide_eq_true_eq] at hc0; omega
    obtain ⟨b, o, c, rfl, hle, hcell⟩ := hs.at (by intro e; subst e; simp at hlt)
    have hx := hcell k hlt
    rw [List.drop_eq_getElem_cons hlt, orGo] at hz
    refine Run.skip ?_
    refine RunQ.then_normal ?_
    refine Run.seq ?_
    refine Run.block ?_
    refine Run.seq ?_
    refine Run.region' ?_
    refine RunL.pure rfl rfl (OpG.plain rfl (by first | exact OpP.indexSl (Val.of rfl) (Val.of rfl) (fun _ => by omega) inferInstance inferInstance | exact OpP.indexI (Val.of rfl) (Val.of rfl) (fun _ => by omega) (fun _ => by omega) inferInstance inferInstance)) ?_
    refine RunL.pure rfl rfl (OpG.plain rfl (by first | exact OpP.load1 (Val.of rfl) (fun _ => .own Take.head rfl) inferInstance | exact OpP.load1 (Val.of rfl) (fun _ => .own (Take.cons Take.head) rfl) inferInstance | exact OpP.load1 (Val.of rfl) (fun _ => .own (Take.cons (Take.cons Take.head)) rfl) inferInstance | exact OpP.load1 (Val.of rfl) (fun _ => .own (Take.cons (Take.cons (Take.cons Take.head))) rfl) inferInstance | exact OpP.load1 (Val.of rfl) (fun _ => .own (Take.cons (Take.cons (Take.cons (Take.cons Take.head)))) rfl) inferInstance | exact OpP.load1 (Val.of rfl) (fun _ => .own (Take.app Take.head) rfl) inferInstance | exact OpP.load1 (Val.of rfl) (fun _ => .own (Take.app (Take.cons Take.head)) rfl) inferInstance | exact OpP.load1 (Val.of rfl) (fun _ => .own (Take.cons (Take.app Take.head)) rfl) inferInstance | exact OpP.load1 (Val.of rfl) (fun _ => .own (Take.app (Take.cons (Take.cons Take.head))) rfl) inferInstance | exact OpP.load1 (Val.of rfl) (fun _ => .own (Take.cons (Take.app (Take.cons Take.head))) rfl) inferInstance | exact OpP.load1 (Val.of rfl) (fun _ => .own (Take.cons (Take.cons (Take.app Take.head))) rfl) inferInstance | exact OpP.load1 (Val.of rfl) (fun _ => .own (Take.app (Take.cons (Take.cons (Take.cons Take.head)))) rfl) inferInstance | exact OpP.load1 (Val.of rfl) (fun _ => .own (Take.cons (Take.app (Take.cons (Take.cons Take.head)))) rfl) inferInstance | exact OpP.load1 (Val.of rfl) (fun _ => .own (Take.cons (Take.cons (Take.app (Take.cons Take.head)))) rfl) inferInstance | exact OpP.load1 (Val.of rfl) (fun _ => .own (Take.cons (Take.cons (Take.cons (Take.app Take.head)))) rfl) inferInstance | exact OpP.load1 (Val.of rfl) (fun _ => .inl (by assumption)) inferInstance)) ?_
    refine RunL.pure rfl rfl (OpG.plain rfl (OpP.assign (Val.of rfl))) ?_
    refine RunL.nil ?_
    refine RunQ.then_normal ?_
    refine Run.seq ?_
    refine Run.region' ?_
    refine RunL.pure rfl rfl (OpG.plain rfl (OpP.move (Val.of rfl))) ?_
    refine RunL.pure rfl rfl (OpG.plain rfl (OpP.move (Val.of rfl))) ?_
    refine RunL.pure rfl rfl (OpG.plain rfl (OpP.bin (Val.of rfl) (Val.of rfl) rfl)) ?_
    refine RunL.nil ?_
    refine RunQ.then_normal ?_
    refine Run.cond rfl (fun hc1 => ?_) (fun hc1 => ?_)
    · rw [show (l[k] != 0) = true from hc1, if_pos rfl] at hz
      refine Run.seq ?_
      refine Run.region' ?_
      refine RunL.pure rfl rfl (OpG.plain rfl (OpP.move (Val.of rfl))) ?_
      refine RunL.pure rfl rfl (OpG.plain rfl (OpP.assign (Val.of rfl))) ?_
      refine RunL.nil ?_
      refine RunQ.then_normal ?_
      refine Run.ret ?_
      refine RunQ.block_ret ?_
      refine RunQ.then_ret ?_
      refine RunQ.then_ret ?_
      refine RunQ.block_ret ?_
      refine RunQ.then_ret ?_
      refine RunQ.ret1 rfl rfl ?_
      rw [hz]
    · rw [show (l[k] != 0) = false from hc1, if_neg (by simp)] at hz
      refine Run.skip ?_
      refine RunQ.block_normal ?_
      refine RunQ.then_normal ?_
      refine Run.region' ?_
      refine RunL.pure rfl rfl (OpG.plain rfl (by first | exact OpP.add64 (Val.of rfl) (Val.of rfl) (by omega) (by omega) | exact OpP.bin (Val.of rfl) (Val.of rfl) rfl)) ?_
      refine RunL.pure rfl rfl (OpG.plain rfl (OpP.move (Val.of rfl))) ?_
      refine RunL.nil ?_
      exact RunQ.againT (l.length - (k + 1)) (by omega) ⟨k + 1, by omega, rfl, rfl, rfl, hz, rfl⟩ ⟨rfl, rfl, rfl, rfl, trivial⟩ Take.whole
  · have hge : k = l.length := by simp only [decide_eq_false_iff_not] at hc0; omega
    refine Run.exit ?_
    refine RunQ.then_exit ?_
    refine RunQ.then_exit ?_
    refine RunQ.block_exit ?_
    refine RunQ.then_normal ?_
    refine Run.seq ?_
    refine Run.region' ?_
    refine RunL.pure rfl rfl (OpG.plain rfl (OpP.move (Val.of rfl))) ?_
    refine RunL.pure rfl rfl (OpG.plain rfl (OpP.assign (Val.of rfl))) ?_
    refine RunL.nil ?_
    refine RunQ.then_normal ?_
    refine Run.ret ?_
    refine RunQ.ret1 rfl rfl ?_
    rw [hge, List.drop_length] at hz; rw [hz]; rfl
end Go.Proofs.YtcckofgleghbgaaDoor
