/- Contracts: package field, the rest. -/
import Derived.Test.YtcckofgleghbgaaDoorSxh
import Derived.Test.YtcckofgleghbgaaDoorFld
namespace Go.Proofs.YtcckofgleghbgaaDoor
open Go Sx
set_option maxHeartbeats 1000000 in
set_option maxRecDepth 100000 in
theorem field_need {h : GH} {n : Int} : Ctr Tryd.prog 103 [i64v n].toArray h [] fun r h' N => N = [] ∧ NeedRes (fneed n) r h' := by
  apply Ctr.forget
  refine Ctr.of_run Tryd.func103 rfl rfl rfl fun w0 => ?_
  refine Run.seq ?_
  refine Run.region' ?_
  refine RunL.pure rfl rfl (OpG.plain rfl (OpP.assign (Val.of rfl))) ?_
  refine RunL.pure rfl rfl (OpG.plain rfl (OpP.assign (Val.of rfl))) ?_
  refine RunL.nil ?_
  refine RunQ.then_normal ?_
  refine Run.seq ?_
  refine Run.seq ?_
  refine Run.region' ?_
  refine RunL.pure rfl rfl (OpG.plain rfl (OpP.move (Val.of rfl))) ?_
  refine RunL.nil ?_
  refine RunQ.then_normal ?_
  refine Run.block ?_
  refine Run.seq ?_
  refine Run.chain (Chain.last rfl rfl rfl rfl rfl) ?_
  refine RunQ.then_normal ?_
  refine Run.cond rfl (fun hc0 => ?_) (fun hc0 => ?_)
  · refine Run.seq ?_
    refine Run.region' ?_
    refine RunL.pure rfl rfl (OpG.plain rfl (OpP.assign (Val.of rfl))) ?_
    refine RunL.pure rfl rfl (OpG.plain rfl (OpP.assign (Val.of rfl))) ?_
    refine RunL.nil ?_
    refine RunQ.then_normal ?_
    refine Run.ret ?_
    refine RunQ.block_ret ?_
    refine RunQ.then_ret ?_
    refine RunQ.ret2 rfl rfl rfl ?_
    exact NeedRes.mk (l := []) (s := Sl.none) (by simp [fneed, *]) .nilSl (by simp)
  · refine Run.seq ?_
    refine Run.chain (Chain.last rfl rfl rfl rfl rfl) ?_
    refine RunQ.then_normal ?_
    refine Run.cond rfl (fun hc1 => ?_) (fun hc1 => ?_)
    · refine Run.seq ?_
      refine Run.region' ?_
      refine RunL.pure rfl rfl (OpG.plain rfl (OpP.assign (Val.of rfl))) ?_
      refine RunL.pure rfl rfl (OpG.plain rfl (OpP.assign (Val.of rfl))) ?_
      refine RunL.nil ?_
      refine RunQ.then_normal ?_
      refine Run.ret ?_
      refine RunQ.block_ret ?_
      refine RunQ.then_ret ?_
      refine RunQ.ret2 rfl rfl rfl ?_
      exact NeedRes.mk (l := []) (s := Sl.none) (by simp [fneed, *]) .nilSl (by simp)
    · refine Run.seq ?_
      refine Run.chain (Chain.step rfl rfl rfl rfl rfl rfl (Chain.step rfl rfl rfl rfl rfl rfl (Chain.last rfl rfl rfl rfl rfl))) ?_
      refine RunQ.then_normal ?_
      refine Run.cond rfl (fun hc2 => ?_) (fun hc2 => ?_)
      · refine Run.seq ?_
        refine Run.region' ?_
        refine RunL.buildSlice inferInstance inferInstance inferInstance rfl rfl rfl rfl rfl rfl fun b1 => ?_
        refine RunL.pure rfl rfl (OpG.plain rfl (OpP.assign (Val.of rfl))) ?_
        refine RunL.pure rfl rfl (OpG.plain rfl (OpP.assign (Val.of rfl))) ?_
        refine RunL.nil ?_
        refine RunQ.then_normal ?_
        refine Run.ret ?_
        refine RunQ.block_ret ?_
        refine RunQ.then_ret ?_
        refine RunQ.freezeB (size := 1) Take.head rfl (by simp [maxLen]) fun h1 _ hs => RunQ.ret2 rfl rfl rfl (NeedRes.mk (l := [0x0800, 0x86dd]) (by simp [fneed, *]) hs (by simp))
      · refine Run.seq ?_
        refine Run.chain (Chain.step rfl rfl rfl rfl rfl rfl (Chain.last rfl rfl rfl rfl rfl)) ?_
        refine RunQ.then_normal ?_
        refine Run.cond rfl (fun hc3 => ?_) (fun hc3 => ?_)
        · refine Run.seq ?_
          refine Run.region' ?_
          refine RunL.buildSlice inferInstance inferInstance inferInstance rfl rfl rfl rfl rfl rfl fun b2 => ?_
          refine RunL.pure rfl rfl (OpG.plain rfl (OpP.assign (Val.of rfl))) ?_
          refine RunL.pure rfl rfl (OpG.plain rfl (OpP.assign (Val.of rfl))) ?_
          refine RunL.nil ?_
          refine RunQ.then_normal ?_
          refine Run.ret ?_
          refine RunQ.block_ret ?_
          refine RunQ.then_ret ?_
          refine RunQ.freezeB (size := 1) Take.head rfl (by simp [maxLen]) fun h1 _ hs => RunQ.ret2 rfl rfl rfl (NeedRes.mk (l := [0x0800]) (by simp [fneed, *]) hs (by simp))
        · refine Run.seq ?_
          refine Run.chain (Chain.step rfl rfl rfl rfl rfl rfl (Chain.step rfl rfl rfl rfl rfl rfl (Chain.step rfl rfl rfl rfl rfl rfl (Chain.step rfl rfl rfl rfl rfl rfl (Chain.last rfl rfl rfl rfl rfl))))) ?_
          refine RunQ.then_normal ?_
          refine Run.cond rfl (fun hc4 => ?_) (fun hc4 => ?_)
          · refine Run.seq ?_
            refine Run.region' ?_
            refine RunL.buildSlice inferInstance inferInstance inferInstance rfl rfl rfl rfl rfl rfl fun b3 => ?_
            refine RunL.pure rfl rfl (OpG.plain rfl (OpP.assign (Val.of rfl))) ?_
            refine RunL.pure rfl rfl (OpG.plain rfl (OpP.assign (Val.of rfl))) ?_
            refine RunL.nil ?_
            refine RunQ.then_normal ?_
            refine Run.ret ?_
            refine RunQ.block_ret ?_
            refine RunQ.then_ret ?_
            refine RunQ.freezeB (size := 1) Take.head rfl (by simp [maxLen]) fun h1 _ hs => RunQ.ret2 rfl rfl rfl (NeedRes.mk (l := [0x0806]) (by simp [fneed, *]) hs (by simp))
          · refine Run.seq ?_
            refine Run.chain (Chain.step rfl rfl rfl rfl rfl rfl (Chain.step rfl rfl rfl rfl rfl rfl (Chain.step rfl rfl rfl rfl rfl rfl (Chain.last rfl rfl rfl rfl rfl)))) ?_
            refine RunQ.then_normal ?_
            refine Run.cond rfl (fun hc5 => ?_) (fun hc5 => ?_)
            · refine Run.seq ?_
              refine Run.region' ?_
              refine RunL.buildSlice inferInstance inferInstance inferInstance rfl rfl rfl rfl rfl rfl fun b4 => ?_
              refine RunL.pure rfl rfl (OpG.plain rfl (OpP.assign (Val.of rfl))) ?_
              refine RunL.pure rfl rfl (OpG.plain rfl (OpP.assign (Val.of rfl))) ?_
              refine RunL.nil ?_
              refine RunQ.then_normal ?_
              refine Run.ret ?_
              refine RunQ.block_ret ?_
              refine RunQ.then_ret ?_
              refine RunQ.freezeB (size := 1) Take.head rfl (by simp [maxLen]) fun h1 _ hs => RunQ.ret2 rfl rfl rfl (NeedRes.mk (l := [0x86dd]) (by simp [fneed, *]) hs (by simp))
            · refine Run.seq ?_
              refine Run.chain (Chain.step rfl rfl rfl rfl rfl rfl (Chain.step rfl rfl rfl rfl rfl rfl (Chain.last rfl rfl rfl rfl rfl))) ?_
              refine RunQ.then_normal ?_
              refine Run.cond rfl (fun hc6 => ?_) (fun hc6 => ?_)
              · refine Run.seq ?_
                refine Run.region' ?_
                refine RunL.buildSlice inferInstance inferInstance inferInstance rfl rfl rfl rfl rfl rfl fun b5 => ?_
                refine RunL.pure rfl rfl (OpG.plain rfl (OpP.assign (Val.of rfl))) ?_
                refine RunL.pure rfl rfl (OpG.plain rfl (OpP.assign (Val.of rfl))) ?_
                refine RunL.nil ?_
                refine RunQ.then_normal ?_
                refine Run.ret ?_
                refine RunQ.block_ret ?_
                refine RunQ.then_ret ?_
                refine RunQ.freezeB (size := 1) Take.head rfl (by simp [maxLen]) fun h1 _ hs => RunQ.ret2 rfl rfl rfl (NeedRes.mk (l := [0x8847, 0x8848]) (by simp [fneed, *]) hs (by simp))
              · refine Run.seq ?_
                refine Run.chain (Chain.last rfl rfl rfl rfl rfl) ?_
                refine RunQ.then_normal ?_
                refine Run.cond rfl (fun hc7 => ?_) (fun hc7 => ?_)
                · refine Run.seq ?_
                  refine Run.region' ?_
                  refine RunL.buildSlice inferInstance inferInstance inferInstance rfl rfl rfl rfl rfl rfl fun b6 => ?_
                  refine RunL.pure rfl rfl (OpG.plain rfl (OpP.assign (Val.of rfl))) ?_
                  refine RunL.pure rfl rfl (OpG.plain rfl (OpP.assign (Val.of rfl))) ?_
                  refine RunL.nil ?_
                  refine RunQ.then_normal ?_
                  refine Run.ret ?_
                  refine RunQ.block_ret ?_
                  refine RunQ.then_ret ?_
                  refine RunQ.freezeB (size := 1) Take.head rfl (by simp [maxLen]) fun h1 _ hs => RunQ.ret2 rfl rfl rfl (NeedRes.mk (l := [0x88e7]) (by simp [fneed, *]) hs (by simp))
                · refine Run.skip ?_
                  refine RunQ.block_normal ?_
                  refine RunQ.then_normal ?_
                  refine Run.seq ?_
                  refine Run.region' ?_
                  refine RunL.pure rfl rfl (OpG.plain rfl (OpP.move (Val.of rfl))) ?_
                  refine RunL.call rfl (by kernel_rfl) rfl Take.nothing (Ctr.forget field_deep) (fun v h2 N2 hle hx => ?_)
                  obtain ⟨hN, s2, hv, hs2⟩ := hx
                  subst hN hv
                  refine RunL.pure rfl rfl (OpG.plain rfl (OpP.extract (Val.of rfl) rfl)) ?_
                  refine RunL.pure rfl rfl (OpG.plain rfl (OpP.extract (Val.of rfl) rfl)) ?_
                  refine RunL.pure rfl rfl (OpG.plain rfl (OpP.assign (Val.of rfl))) ?_
                  refine RunL.pure rfl rfl (OpG.plain rfl (OpP.assign (Val.of rfl))) ?_
                  refine RunL.nil ?_
                  refine RunQ.then_normal ?_
                  refine Run.ret ?_
                  refine RunQ.ret2 rfl rfl rfl ?_
                  have : fneed n = fdeep n := by simp [fneed, *]
                  rw [this]; exact ⟨s2, rfl, hs2⟩
/-- A field, as it stands in memory. -/
structure FieldM where
  bits : Int
  size : Int
  masked : Bool
  need : Int
  values : List UInt64
def fieldOf (n : Int) : Option FieldM := if fis n then some ⟨fbits n, fsize n, fmasked n, (fneed n).1, (fneed n).2⟩ else none
def fieldM (n : Int) : FieldM := (fieldOf n).getD ⟨0, 0, false, 0, []⟩
def FieldRes (f : FieldM) (ok : Bool) (r : Value) (h : GH) : Prop := ∃ s : Sl, r = .tuple #[.agg #[i64v f.bits, i64v f.size, .bool f.masked, i64v f.need, s.v], .bool ok] ∧ IsNums h s f.values
set_option maxHeartbeats 1000000 in
set_option maxRecDepth 100000 in
theorem field_Of {h : GH} {n : Int} : Ctr Tryd.prog 80 [i64v n].toArray h [] fun r h' N => N = [] ∧ FieldRes (fieldM n) (fis n) r h' := by
  apply Ctr.forget
  refine Ctr.of_run Tryd.func80 rfl rfl rfl fun w0 => ?_
  refine Run.seq ?_
  refine Run.region' ?_
  refine RunL.alloc inferInstance rfl rfl fun b1 => ?_
  refine RunL.pure rfl rfl (OpG.plain rfl (OpP.assign (Val.of rfl))) ?_
  refine RunL.nil ?_
  refine RunQ.then_normal ?_
  refine Run.seq ?_
  refine Run.seq ?_
  refine Run.region' ?_
  refine RunL.pure rfl rfl (OpG.plain rfl (OpP.move (Val.of rfl))) ?_
  refine RunL.pure rfl rfl (OpG.plain rfl (OpP.call (by kernel_rfl) (.cons (Val.of rfl) .nil) (fun hA => by first | (have hct := field_is n; exact hct) | exact field_is n))) ?_
  refine RunL.pure rfl rfl (OpG.plain rfl (OpP.not (Val.of rfl))) ?_
  refine RunL.nil ?_
  refine RunQ.then_normal ?_
  refine Run.cond rfl (fun hc0 => ?_) (fun hc0 => ?_)
  · have hi : fis n = false := by simpa using hc0
    refine Run.seq ?_
    refine Run.region' ?_
    refine RunL.pure rfl rfl (OpG.plain rfl (OpP.build inferInstance rfl rfl)) ?_
    apply RunL.store inferInstance rfl rfl
    · first | exact Take.head | exact (Take.cons Take.head) | exact (Take.cons (Take.cons Take.head)) | exact (Take.cons (Take.cons (Take.cons Take.head))) | exact (Take.cons (Take.cons (Take.cons (Take.cons Take.head)))) | exact (Take.app Take.head) | exact (Take.app (Take.cons Take.head)) | exact (Take.cons (Take.app Take.head)) | exact (Take.app (Take.cons (Take.cons Take.head))) | exact (Take.cons (Take.app (Take.cons Take.head))) | exact (Take.cons (Take.cons (Take.app Take.head))) | exact (Take.app (Take.cons (Take.cons (Take.cons Take.head)))) | exact (Take.cons (Take.app (Take.cons (Take.cons Take.head)))) | exact (Take.cons (Take.cons (Take.app (Take.cons Take.head)))) | exact (Take.cons (Take.cons (Take.cons (Take.app Take.head))))
    · rfl
    · rfl
    · rfl
    · rfl
    refine RunL.pure rfl rfl (OpG.plain rfl (OpP.assign (Val.of rfl))) ?_
    refine RunL.nil ?_
    refine RunQ.then_normal ?_
    refine Run.ret ?_
    refine RunQ.then_ret ?_
    refine RunQ.retc2 rfl rfl (by first | exact CellV.many inferInstance Take.head rfl | exact CellV.many inferInstance (Take.cons Take.head) rfl | exact CellV.many inferInstance (Take.cons (Take.cons Take.head)) rfl | exact CellV.many inferInstance (Take.cons (Take.cons (Take.cons Take.head))) rfl | exact CellV.many inferInstance (Take.cons (Take.cons (Take.cons (Take.cons Take.head)))) rfl | exact CellV.many inferInstance (Take.app Take.head) rfl | exact CellV.many inferInstance (Take.app (Take.cons Take.head)) rfl | exact CellV.many inferInstance (Take.cons (Take.app Take.head)) rfl | exact CellV.many inferInstance (Take.app (Take.cons (Take.cons Take.head))) rfl | exact CellV.many inferInstance (Take.cons (Take.app (Take.cons Take.head))) rfl | exact CellV.many inferInstance (Take.cons (Take.cons (Take.app Take.head))) rfl | exact CellV.many inferInstance (Take.app (Take.cons (Take.cons (Take.cons Take.head)))) rfl | exact CellV.many inferInstance (Take.cons (Take.app (Take.cons (Take.cons Take.head)))) rfl | exact CellV.many inferInstance (Take.cons (Take.cons (Take.app (Take.cons Take.head)))) rfl | exact CellV.many inferInstance (Take.cons (Take.cons (Take.cons (Take.app Take.head)))) rfl | exact CellV.one inferInstance Take.head rfl | exact CellV.one inferInstance (Take.cons Take.head) rfl | exact CellV.one inferInstance (Take.cons (Take.cons Take.head)) rfl | exact CellV.one inferInstance (Take.cons (Take.cons (Take.cons Take.head))) rfl | exact CellV.one inferInstance (Take.cons (Take.cons (Take.cons (Take.cons Take.head)))) rfl | exact CellV.one inferInstance (Take.app Take.head) rfl | exact CellV.one inferInstance (Take.app (Take.cons Take.head)) rfl | exact CellV.one inferInstance (Take.cons (Take.app Take.head)) rfl | exact CellV.one inferInstance (Take.app (Take.cons (Take.cons Take.head))) rfl | exact CellV.one inferInstance (Take.cons (Take.app (Take.cons Take.head))) rfl | exact CellV.one inferInstance (Take.cons (Take.cons (Take.app Take.head))) rfl | exact CellV.one inferInstance (Take.app (Take.cons (Take.cons (Take.cons Take.head)))) rfl | exact CellV.one inferInstance (Take.cons (Take.app (Take.cons (Take.cons Take.head)))) rfl | exact CellV.one inferInstance (Take.cons (Take.cons (Take.app (Take.cons Take.head)))) rfl | exact CellV.one inferInstance (Take.cons (Take.cons (Take.cons (Take.app Take.head)))) rfl) rfl ?_
    exact ⟨Sl.none, by simp [fieldM, fieldOf, hi], by simp [fieldM, fieldOf, hi]; exact IsNums.niln⟩
  · have hi : fis n = true := by simpa using hc0
    have h0 : 0 ≤ n := by simp [fis] at hi; omega
    have h1 : n < 40 := by simp [fis] at hi; omega
    refine Run.skip ?_
    refine RunQ.then_normal ?_
    refine Run.seq ?_
    refine Run.region' ?_
    refine RunL.pure rfl rfl (OpG.plain rfl (OpP.move (Val.of rfl))) ?_
    refine RunL.pure rfl rfl (OpG.plain rfl (OpP.call (by kernel_rfl) (.cons (Val.of rfl) .nil) (fun hA => by first | (have hct := field_bits h0 h1; exact hct) | exact field_bits h0 h1))) ?_
    refine RunL.pure rfl rfl (OpG.plain rfl (OpP.move (Val.of rfl))) ?_
    refine RunL.pure rfl rfl (OpG.plain rfl (OpP.call (by kernel_rfl) (.cons (Val.of rfl) .nil) (fun hA => by first | (have hct := field_size h0 h1; exact hct) | exact field_size h0 h1))) ?_
    refine RunL.pure rfl rfl (OpG.plain rfl (OpP.move (Val.of rfl))) ?_
    refine RunL.pure rfl rfl (OpG.plain rfl (OpP.call (by kernel_rfl) (.cons (Val.of rfl) .nil) (fun hA => by first | (have hct := field_masked; exact hct) | exact field_masked))) ?_
    refine RunL.pure rfl rfl (OpG.plain rfl (OpP.build inferInstance rfl rfl)) ?_
    refine RunL.alloc inferInstance rfl rfl fun b2 => ?_
    apply RunL.store inferInstance rfl rfl
    · first | exact Take.head | exact (Take.cons Take.head) | exact (Take.cons (Take.cons Take.head)) | exact (Take.cons (Take.cons (Take.cons Take.head))) | exact (Take.cons (Take.cons (Take.cons (Take.cons Take.head)))) | exact (Take.app Take.head) | exact (Take.app (Take.cons Take.head)) | exact (Take.cons (Take.app Take.head)) | exact (Take.app (Take.cons (Take.cons Take.head))) | exact (Take.cons (Take.app (Take.cons Take.head))) | exact (Take.cons (Take.cons (Take.app Take.head))) | exact (Take.app (Take.cons (Take.cons (Take.cons Take.head)))) | exact (Take.cons (Take.app (Take.cons (Take.cons Take.head)))) | exact (Take.cons (Take.cons (Take.app (Take.cons Take.head)))) | exact (Take.cons (Take.cons (Take.cons (Take.app Take.head))))
    · rfl
    · rfl
    · rfl
    · rfl
    refine RunL.nil ?_
    refine RunQ.then_normal ?_
    refine Run.seq ?_
    refine Run.region' ?_
    refine RunL.pure rfl rfl (OpG.plain rfl (OpP.move (Val.of rfl))) ?_
    refine RunL.call rfl (by kernel_rfl) rfl Take.nothing field_need (fun v h2 N2 hle hx => ?_)
    obtain ⟨hN, s2, hv, hs2⟩ := hx
    subst hN hv
    refine RunL.pure rfl rfl (OpG.plain rfl (OpP.move (Val.of rfl))) ?_
    refine RunL.pure rfl rfl (OpG.plain rfl (OpP.extract (Val.of rfl) rfl)) ?_
    refine RunL.pure rfl rfl (OpG.plain rfl (OpP.extract (Val.of rfl) rfl)) ?_
    refine RunL.pure rfl rfl (OpG.plain rfl (OpP.fieldAddr (Val.of rfl) inferInstance)) ?_
    apply RunL.store inferInstance rfl rfl
    · first | exact Take.head | exact (Take.cons Take.head) | exact (Take.cons (Take.cons Take.head)) | exact (Take.cons (Take.cons (Take.cons Take.head))) | exact (Take.cons (Take.cons (Take.cons (Take.cons Take.head)))) | exact (Take.app Take.head) | exact (Take.app (Take.cons Take.head)) | exact (Take.cons (Take.app Take.head)) | exact (Take.app (Take.cons (Take.cons Take.head))) | exact (Take.cons (Take.app (Take.cons Take.head))) | exact (Take.cons (Take.cons (Take.app Take.head))) | exact (Take.app (Take.cons (Take.cons (Take.cons Take.head)))) | exact (Take.cons (Take.app (Take.cons (Take.cons Take.head)))) | exact (Take.cons (Take.cons (Take.app (Take.cons Take.head)))) | exact (Take.cons (Take.cons (Take.cons (Take.app Take.head))))
    · rfl
    · rfl
    · rfl
    · rfl
    refine RunL.pure rfl rfl (OpG.plain rfl (OpP.fieldAddr (Val.of rfl) inferInstance)) ?_
    apply RunL.store inferInstance rfl rfl
    · first | exact Take.head | exact (Take.cons Take.head) | exact (Take.cons (Take.cons Take.head)) | exact (Take.cons (Take.cons (Take.cons Take.head))) | exact (Take.cons (Take.cons (Take.cons (Take.cons Take.head)))) | exact (Take.app Take.head) | exact (Take.app (Take.cons Take.head)) | exact (Take.cons (Take.app Take.head)) | exact (Take.app (Take.cons (Take.cons Take.head))) | exact (Take.cons (Take.app (Take.cons Take.head))) | exact (Take.cons (Take.cons (Take.app Take.head))) | exact (Take.app (Take.cons (Take.cons (Take.cons Take.head)))) | exact (Take.cons (Take.app (Take.cons (Take.cons Take.head)))) | exact (Take.cons (Take.cons (Take.app (Take.cons Take.head)))) | exact (Take.cons (Take.cons (Take.cons (Take.app Take.head))))
    · rfl
    · rfl
    · rfl
    · rfl
    refine RunL.nil ?_
    refine RunQ.then_normal ?_
    refine Run.seq ?_
    refine Run.region' ?_
    refine RunL.pure rfl rfl (OpG.plain rfl (by first | exact OpP.loadW (Val.of rfl) Take.head rfl inferInstance | exact OpP.loadW (Val.of rfl) (Take.cons Take.head) rfl inferInstance | exact OpP.loadW (Val.of rfl) (Take.cons (Take.cons Take.head)) rfl inferInstance | exact OpP.loadW (Val.of rfl) (Take.cons (Take.cons (Take.cons Take.head))) rfl inferInstance | exact OpP.loadW (Val.of rfl) (Take.cons (Take.cons (Take.cons (Take.cons Take.head)))) rfl inferInstance | exact OpP.loadW (Val.of rfl) (Take.app Take.head) rfl inferInstance | exact OpP.loadW (Val.of rfl) (Take.app (Take.cons Take.head)) rfl inferInstance | exact OpP.loadW (Val.of rfl) (Take.cons (Take.app Take.head)) rfl inferInstance | exact OpP.loadW (Val.of rfl) (Take.app (Take.cons (Take.cons Take.head))) rfl inferInstance | exact OpP.loadW (Val.of rfl) (Take.cons (Take.app (Take.cons Take.head))) rfl inferInstance | exact OpP.loadW (Val.of rfl) (Take.cons (Take.cons (Take.app Take.head))) rfl inferInstance | exact OpP.loadW (Val.of rfl) (Take.app (Take.cons (Take.cons (Take.cons Take.head)))) rfl inferInstance | exact OpP.loadW (Val.of rfl) (Take.cons (Take.app (Take.cons (Take.cons Take.head)))) rfl inferInstance | exact OpP.loadW (Val.of rfl) (Take.cons (Take.cons (Take.app (Take.cons Take.head)))) rfl inferInstance | exact OpP.loadW (Val.of rfl) (Take.cons (Take.cons (Take.cons (Take.app Take.head)))) rfl inferInstance | exact OpP.loadO inferInstance (Val.of rfl) Take.head rfl | exact OpP.loadO inferInstance (Val.of rfl) (Take.cons Take.head) rfl | exact OpP.loadO inferInstance (Val.of rfl) (Take.cons (Take.cons Take.head)) rfl | exact OpP.loadO inferInstance (Val.of rfl) (Take.cons (Take.cons (Take.cons Take.head))) rfl | exact OpP.loadO inferInstance (Val.of rfl) (Take.cons (Take.cons (Take.cons (Take.cons Take.head)))) rfl | exact OpP.loadO inferInstance (Val.of rfl) (Take.app Take.head) rfl | exact OpP.loadO inferInstance (Val.of rfl) (Take.app (Take.cons Take.head)) rfl | exact OpP.loadO inferInstance (Val.of rfl) (Take.cons (Take.app Take.head)) rfl | exact OpP.loadO inferInstance (Val.of rfl) (Take.app (Take.cons (Take.cons Take.head))) rfl | exact OpP.loadO inferInstance (Val.of rfl) (Take.cons (Take.app (Take.cons Take.head))) rfl | exact OpP.loadO inferInstance (Val.of rfl) (Take.cons (Take.cons (Take.app Take.head))) rfl | exact OpP.loadO inferInstance (Val.of rfl) (Take.app (Take.cons (Take.cons (Take.cons Take.head)))) rfl | exact OpP.loadO inferInstance (Val.of rfl) (Take.cons (Take.app (Take.cons (Take.cons Take.head)))) rfl | exact OpP.loadO inferInstance (Val.of rfl) (Take.cons (Take.cons (Take.app (Take.cons Take.head)))) rfl | exact OpP.loadO inferInstance (Val.of rfl) (Take.cons (Take.cons (Take.cons (Take.app Take.head)))) rfl | exact OpP.loadN (Val.of rfl) (fun _ => ReadsAll.ghost (by assumption)) rfl inferInstance)) ?_
    apply RunL.store inferInstance rfl rfl
    · first | exact Take.head | exact (Take.cons Take.head) | exact (Take.cons (Take.cons Take.head)) | exact (Take.cons (Take.cons (Take.cons Take.head))) | exact (Take.cons (Take.cons (Take.cons (Take.cons Take.head)))) | exact (Take.app Take.head) | exact (Take.app (Take.cons Take.head)) | exact (Take.cons (Take.app Take.head)) | exact (Take.app (Take.cons (Take.cons Take.head))) | exact (Take.cons (Take.app (Take.cons Take.head))) | exact (Take.cons (Take.cons (Take.app Take.head))) | exact (Take.app (Take.cons (Take.cons (Take.cons Take.head)))) | exact (Take.cons (Take.app (Take.cons (Take.cons Take.head)))) | exact (Take.cons (Take.cons (Take.app (Take.cons Take.head)))) | exact (Take.cons (Take.cons (Take.cons (Take.app Take.head))))
    · rfl
    · rfl
    · rfl
    · rfl
    refine RunL.pure rfl rfl (OpG.plain rfl (OpP.assign (Val.of rfl))) ?_
    refine RunL.nil ?_
    refine RunQ.then_normal ?_
    refine Run.ret ?_
    refine RunQ.retc2 rfl rfl (by first | exact CellV.many inferInstance Take.head rfl | exact CellV.many inferInstance (Take.cons Take.head) rfl | exact CellV.many inferInstance (Take.cons (Take.cons Take.head)) rfl | exact CellV.many inferInstance (Take.cons (Take.cons (Take.cons Take.head))) rfl | exact CellV.many inferInstance (Take.cons (Take.cons (Take.cons (Take.cons Take.head)))) rfl | exact CellV.many inferInstance (Take.app Take.head) rfl | exact CellV.many inferInstance (Take.app (Take.cons Take.head)) rfl | exact CellV.many inferInstance (Take.cons (Take.app Take.head)) rfl | exact CellV.many inferInstance (Take.app (Take.cons (Take.cons Take.head))) rfl | exact CellV.many inferInstance (Take.cons (Take.app (Take.cons Take.head))) rfl | exact CellV.many inferInstance (Take.cons (Take.cons (Take.app Take.head))) rfl | exact CellV.many inferInstance (Take.app (Take.cons (Take.cons (Take.cons Take.head)))) rfl | exact CellV.many inferInstance (Take.cons (Take.app (Take.cons (Take.cons Take.head)))) rfl | exact CellV.many inferInstance (Take.cons (Take.cons (Take.app (Take.cons Take.head)))) rfl | exact CellV.many inferInstance (Take.cons (Take.cons (Take.cons (Take.app Take.head)))) rfl | exact CellV.one inferInstance Take.head rfl | exact CellV.one inferInstance (Take.cons Take.head) rfl | exact CellV.one inferInstance (Take.cons (Take.cons Take.head)) rfl | exact CellV.one inferInstance (Take.cons (Take.cons (Take.cons Take.head))) rfl | exact CellV.one inferInstance (Take.cons (Take.cons (Take.cons (Take.cons Take.head)))) rfl | exact CellV.one inferInstance (Take.app Take.head) rfl | exact CellV.one inferInstance (Take.app (Take.cons Take.head)) rfl | exact CellV.one inferInstance (Take.cons (Take.app Take.head)) rfl | exact CellV.one inferInstance (Take.app (Take.cons (Take.cons Take.head))) rfl | exact CellV.one inferInstance (Take.cons (Take.app (Take.cons Take.head))) rfl | exact CellV.one inferInstance (Take.cons (Take.cons (Take.app Take.head))) rfl | exact CellV.one inferInstance (Take.app (Take.cons (Take.cons (Take.cons Take.head)))) rfl | exact CellV.one inferInstance (Take.cons (Take.app (Take.cons (Take.cons Take.head)))) rfl | exact CellV.one inferInstance (Take.cons (Take.cons (Take.app (Take.cons Take.head)))) rfl | exact CellV.one inferInstance (Take.cons (Take.cons (Take.cons (Take.app Take.head)))) rfl) rfl ?_
    exact ⟨s2, by simp [fieldM, fieldOf, hi], by simp [fieldM, fieldOf, hi]; exact hs2⟩
/-- Are the bytes' first bits 0, so many of them? -/
def fitsGo : Int → List UInt8 → Bool
  | _, [] => true
  | sp, b :: bs => if shrB b (8 - min sp 8).toNat != 0 then false else fitsGo (sp - min sp 8) bs
def fieldFits (n : Int) (l : List UInt8) : Bool := fis n && ((l.length : Int) == fsize n) && fitsGo (8 * fsize n - fbits n) l
theorem fsize_bits (n : Int) : 0 ≤ 8 * fsize n - fbits n ∧ 8 * fsize n - fbits n ≤ 200 := by
  have h1 := fbits_le n
  by_cases h : n = 28 ∨ n = 34
  · rcases h with rfl | rfl <;> decide
  · have : fsize n = (fbits n + 7) / 8 := by simp [fsize]; omega
    omega
theorem fis_bounds {n : Int} (hi : fis n = true) : 0 ≤ n ∧ n < 40 := by simp [fis] at hi; omega
set_option maxHeartbeats 1000000 in
set_option maxRecDepth 100000 in
theorem field_Fits {h : GH} {n : Int} {s : Sl} {l : List UInt8} (hs : IsBytes h s l) : Ctr Tryd.prog 81 [i64v n, s.v].toArray h [] fun r _ _ => r = .bool (fieldFits n l) := by
  have hn := hs.n
  have hsm := hs.small
  have hb := fsize_bits n
  have hb1 := fsize_le n
  have hb2 := fbits_le n
  refine Ctr.of_run Tryd.func81 rfl rfl rfl fun w0 => ?_
  refine Run.seq ?_
  refine Run.region' ?_
  refine RunL.pure rfl rfl (OpG.plain rfl (OpP.assign (Val.of rfl))) ?_
  refine RunL.nil ?_
  refine RunQ.then_normal ?_
  refine Run.seq ?_
  refine Run.seq ?_
  refine Run.region' ?_
  refine RunL.pure rfl rfl (OpG.plain rfl (OpP.move (Val.of rfl))) ?_
  refine RunL.pure rfl rfl (OpG.plain rfl (OpP.call (by kernel_rfl) (.cons (Val.of rfl) .nil) (fun hA => by first | (have hct := field_is n; exact hct) | exact field_is n))) ?_
  refine RunL.pure rfl rfl (OpG.plain rfl (OpP.not (Val.of rfl))) ?_
  refine RunL.pure rfl rfl (OpG.plain rfl (OpP.move (Val.of rfl))) ?_
  refine RunL.pure rfl rfl (OpG.onF rfl rfl rfl (OpP.move (Val.of rfl))) ?_
  refine RunL.pure rfl rfl (OpG.onF rfl rfl rfl (OpP.lenSl (Val.lz rfl) inferInstance)) ?_
  refine RunL.pure rfl rfl (OpG.onF rfl rfl rfl (OpP.move (Val.of rfl))) ?_
  refine RunL.pure rfl rfl (OpG.onF rfl rfl rfl (OpP.call (by kernel_rfl) (.cons (Val.lz rfl) .nil) (fun hA => by first | (have hct := field_size (fis_bounds (by simpa using hA)).1 (fis_bounds (by simpa using hA)).2; exact hct) | exact field_size (fis_bounds (by simpa using hA)).1 (fis_bounds (by simpa using hA)).2))) ?_
  refine RunL.pure rfl rfl (OpG.onF rfl rfl rfl (OpP.bin (Val.lz rfl) (Val.lz rfl) rfl)) ?_
  refine RunL.pure rfl rfl (OpG.plain rfl (OpP.pick_or rfl rfl rfl)) ?_
  refine RunL.nil ?_
  refine RunQ.then_normal ?_
  refine Run.cond rfl (fun hc0 => ?_) (fun hc0 => ?_)
  · refine Run.seq ?_
    refine Run.region' ?_
    refine RunL.pure rfl rfl (OpG.plain rfl (OpP.assign (Val.of rfl))) ?_
    refine RunL.nil ?_
    refine RunQ.then_normal ?_
    refine Run.ret ?_
    refine RunQ.then_ret ?_
    refine RunQ.ret1 rfl rfl ?_
    have : fieldFits n l = false := by
      unfold fieldFits
      rw [hn] at hc0
      cases hi : fis n with
      | false => simp
      | true => rw [hi] at hc0; simp at hc0; simp [hc0]
    rw [this]
  · have hc1 : fis n = true ∧ (l.length : Int) = fsize n := by simpa [hn] using hc0
    obtain ⟨hi, hlen⟩ := hc1
    obtain ⟨h0, h1⟩ := fis_bounds hi
    have hf : fieldFits n l = fitsGo (8 * fsize n - fbits n) l := by simp [fieldFits, hi, hlen]
    refine Run.skip ?_
    refine RunQ.then_normal ?_
    refine Run.seq ?_
    refine Run.region' ?_
    refine RunL.pure rfl rfl (OpG.plain rfl (OpP.move (Val.of rfl))) ?_
    refine RunL.pure rfl rfl (OpG.plain rfl (OpP.call (by kernel_rfl) (.cons (Val.of rfl) .nil) (fun hA => by first | (have hct := field_size h0 h1; exact hct) | exact field_size h0 h1))) ?_
    refine RunL.pure rfl rfl (OpG.plain rfl (by first | exact OpP.mul64 (Val.of rfl) (Val.of rfl) (by omega) (by omega) | exact OpP.bin (Val.of rfl) (Val.of rfl) rfl)) ?_
    refine RunL.pure rfl rfl (OpG.plain rfl (OpP.move (Val.of rfl))) ?_
    refine RunL.pure rfl rfl (OpG.plain rfl (OpP.call (by kernel_rfl) (.cons (Val.of rfl) .nil) (fun hA => by first | (have hct := field_bits h0 h1; exact hct) | exact field_bits h0 h1))) ?_
    refine RunL.pure rfl rfl (OpG.plain rfl (by first | exact OpP.sub64 (Val.of rfl) (Val.of rfl) (by omega) (by omega) | exact OpP.bin (Val.of rfl) (Val.of rfl) rfl)) ?_
    refine RunL.pure rfl rfl (OpG.plain rfl (OpP.assign (Val.of rfl))) ?_
    refine RunL.nil ?_
    refine RunQ.then_normal ?_
    refine Run.seq ?_
    refine Run.seq ?_
    refine Run.region' ?_
    refine RunL.pure rfl rfl (OpG.plain rfl (OpP.move (Val.of rfl))) ?_
    refine RunL.pure rfl rfl (OpG.plain rfl (OpP.lenSl (Val.of rfl) inferInstance)) ?_
    refine RunL.pure rfl rfl (OpG.plain rfl (OpP.move (Val.of rfl))) ?_
    refine RunL.nil ?_
    refine RunQ.then_normal ?_
    refine Run.block ?_
    refine Run.loopT (fun m E h' L' => ∃ (k : Nat) (sp : Int), k ≤ l.length ∧ m = l.length - k ∧ h' = h ∧ L' = [] ∧ 0 ≤ sp ∧ sp ≤ 200 ∧ fieldFits n l = fitsGo sp (l.drop k) ∧ E = [(25, s.v), (26, .int .i64 (s.n : Int)), (27, i64v (k : Int)), (5, i64v sp)]) l.length ⟨0, _, Nat.zero_le _, rfl, rfl, rfl, hb.1, hb.2, hf, rfl⟩ ⟨rfl, rfl, rfl, rfl, trivial⟩ Take.whole ?_
    rintro m E1 h1 L1 ⟨k, sp, hk, rfl, rfl, rfl, hp0, hp1, hz, rfl⟩
    refine Run.seq ?_
    refine Run.region' ?_
    refine RunL.pure rfl rfl (OpG.plain rfl (OpP.bin (Val.of rfl) (Val.of rfl) rfl)) ?_
    refine RunL.nil ?_
    refine RunQ.then_normal ?_
    refine Run.seq ?_
    refine Run.cond rfl (fun hc1 => ?_) (fun hc1 => ?_)
    · have hlt : k < l.length := by simp only [decide_eq_true_eq] at hc1; omega
      obtain ⟨b, o, c, rfl, hle, hcell⟩ := hs.at (by intro e; subst e; simp at hlt)
      have hx := hcell k hlt
      rw [List.drop_eq_getElem_cons hlt, fitsGo] at hz
      refine Run.skip ?_
      refine RunQ.then_normal ?_
      refine Run.seq ?_
      refine Run.block ?_
      refine Run.seq ?_
      refine Run.region' ?_
      refine RunL.pure rfl rfl (OpG.plain rfl (by first | exact OpP.indexSl (Val.of rfl) (Val.of rfl) (fun _ => by omega) inferInstance inferInstance | exact OpP.indexI (Val.of rfl) (Val.of rfl) (fun _ => by omega) (fun _ => by omega) inferInstance inferInstance)) ?_
      refine RunL.pure rfl rfl (OpG.plain rfl (by first | exact OpP.load1 (Val.of rfl) (fun _ => .own Take.head rfl) inferInstance | exact OpP.load1 (Val.of rfl) (fun _ => .own (Take.cons Take.head) rfl) inferInstance | exact OpP.load1 (Val.of rfl) (fun _ => .own (Take.cons (Take.cons Take.head)) rfl) inferInstance | exact OpP.load1 (Val.of rfl) (fun _ => .own (Take.cons (Take.cons (Take.cons Take.head))) rfl) inferInstance | exact OpP.load1 (Val.of rfl) (fun _ => .own (Take.cons (Take.cons (Take.cons (Take.cons Take.head)))) rfl) inferInstance | exact OpP.load1 (Val.of rfl) (fun _ => .own (Take.app Take.head) rfl) inferInstance | exact OpP.load1 (Val.of rfl) (fun _ => .own (Take.app (Take.cons Take.head)) rfl) inferInstance | exact OpP.load1 (Val.of rfl) (fun _ => .own (Take.cons (Take.app Take.head)) rfl) inferInstance | exact OpP.load1 (Val.of rfl) (fun _ => .own (Take.app (Take.cons (Take.cons Take.head))) rfl) inferInstance | exact OpP.load1 (Val.of rfl) (fun _ => .own (Take.cons (Take.app (Take.cons Take.head))) rfl) inferInstance | exact OpP.load1 (Val.of rfl) (fun _ => .own (Take.cons (Take.cons (Take.app Take.head))) rfl) inferInstance | exact OpP.load1 (Val.of rfl) (fun _ => .own (Take.app (Take.cons (Take.cons (Take.cons Take.head)))) rfl) inferInstance | exact OpP.load1 (Val.of rfl) (fun _ => .own (Take.cons (Take.app (Take.cons (Take.cons Take.head)))) rfl) inferInstance | exact OpP.load1 (Val.of rfl) (fun _ => .own (Take.cons (Take.cons (Take.app (Take.cons Take.head)))) rfl) inferInstance | exact OpP.load1 (Val.of rfl) (fun _ => .own (Take.cons (Take.cons (Take.cons (Take.app Take.head)))) rfl) inferInstance | exact OpP.load1 (Val.of rfl) (fun _ => .inl (by assumption)) inferInstance)) ?_
      refine RunL.pure rfl rfl (OpG.plain rfl (OpP.assign (Val.of rfl))) ?_
      refine RunL.nil ?_
      refine RunQ.then_normal ?_
      refine Run.seq ?_
      refine Run.region' ?_
      refine RunL.pure rfl rfl (OpG.plain rfl (OpP.move (Val.of rfl))) ?_
      refine RunL.pure rfl rfl (OpG.plain rfl (OpP.min2 (Val.of rfl) (Val.of rfl))) ?_
      refine RunL.pure rfl rfl (OpG.plain rfl (OpP.assign (Val.of rfl))) ?_
      refine RunL.nil ?_
      refine RunQ.then_normal ?_
      refine Run.seq ?_
      refine Run.seq ?_
      refine Run.region' ?_
      refine RunL.pure rfl rfl (OpG.plain rfl (OpP.move (Val.of rfl))) ?_
      refine RunL.pure rfl rfl (OpG.plain rfl (OpP.move (Val.of rfl))) ?_
      refine RunL.pure rfl rfl (OpG.plain rfl (by first | exact OpP.sub64 (Val.of rfl) (Val.of rfl) (by omega) (by omega) | exact OpP.bin (Val.of rfl) (Val.of rfl) rfl)) ?_
      refine RunL.pure rfl rfl (OpG.plain rfl (by first | exact OpP.shr_u8 (Val.of rfl) (Val.of rfl) (by first | decide | omega) | exact OpP.shr (Val.of rfl) (Val.of rfl) (by decide) | exact OpP.shr (Val.of rfl) (Val.of rfl) (by omega))) ?_
      refine RunL.pure rfl rfl (OpG.plain rfl (by first | exact OpP.neq_u8 (Val.of rfl) (Val.c8 (Val.of rfl) (by decide)) | exact OpP.bin (Val.of rfl) (Val.of rfl) rfl)) ?_
      refine RunL.nil ?_
      refine RunQ.then_normal ?_
      refine Run.cond rfl (fun hc2 => ?_) (fun hc2 => ?_)
      · have h2 : (shrB l[k] (8 - min sp 8).toNat != 0) = true := hc2
        rw [h2, if_pos rfl] at hz
        refine Run.seq ?_
        refine Run.region' ?_
        refine RunL.pure rfl rfl (OpG.plain rfl (OpP.assign (Val.of rfl))) ?_
        refine RunL.nil ?_
        refine RunQ.then_normal ?_
        refine Run.ret ?_
        refine RunQ.then_ret ?_
        refine RunQ.block_ret ?_
        refine RunQ.then_ret ?_
        refine RunQ.then_ret ?_
        refine RunQ.block_ret ?_
        refine RunQ.then_ret ?_
        refine RunQ.ret1 rfl rfl ?_
        rw [hz]
      · have h2 : (shrB l[k] (8 - min sp 8).toNat != 0) = false := hc2
        rw [h2, if_neg (by simp)] at hz
        refine Run.skip ?_
        refine RunQ.then_normal ?_
        refine Run.region' ?_
        refine RunL.pure rfl rfl (OpG.plain rfl (OpP.move (Val.of rfl))) ?_
        refine RunL.pure rfl rfl (OpG.plain rfl (OpP.move (Val.of rfl))) ?_
        refine RunL.pure rfl rfl (OpG.plain rfl (by first | exact OpP.sub64 (Val.of rfl) (Val.of rfl) (by omega) (by omega) | exact OpP.bin (Val.of rfl) (Val.of rfl) rfl)) ?_
        refine RunL.pure rfl rfl (OpG.plain rfl (OpP.assign (Val.of rfl))) ?_
        refine RunL.nil ?_
        refine RunQ.block_normal ?_
        refine RunQ.then_normal ?_
        refine Run.region' ?_
        refine RunL.pure rfl rfl (OpG.plain rfl (by first | exact OpP.add64 (Val.of rfl) (Val.of rfl) (by omega) (by omega) | exact OpP.bin (Val.of rfl) (Val.of rfl) rfl)) ?_
        refine RunL.pure rfl rfl (OpG.plain rfl (OpP.move (Val.of rfl))) ?_
        refine RunL.nil ?_
        exact RunQ.againT (l.length - (k + 1)) (by omega) ⟨k + 1, sp - min sp 8, by omega, rfl, rfl, rfl, by omega, by omega, hz, rfl⟩ ⟨rfl, rfl, rfl, rfl, trivial⟩ Take.whole
    · have hge : k = l.length := by simp only [decide_eq_false_iff_not] at hc1; omega
      refine Run.exit ?_
      refine RunQ.then_exit ?_
      refine RunQ.then_exit ?_
      refine RunQ.block_exit ?_
      refine RunQ.then_normal ?_
      refine Run.seq ?_
      refine Run.region' ?_
      refine RunL.pure rfl rfl (OpG.plain rfl (OpP.assign (Val.of rfl))) ?_
      refine RunL.nil ?_
      refine RunQ.then_normal ?_
      refine Run.ret ?_
      refine RunQ.ret1 rfl rfl ?_
      rw [hge, List.drop_length] at hz; rw [hz]; rfl
end Go.Proofs.YtcckofgleghbgaaDoor
