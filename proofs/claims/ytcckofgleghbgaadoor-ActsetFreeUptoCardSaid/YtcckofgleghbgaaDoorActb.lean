/- Contracts: package action: Right, Copy; oxm.Copy with a result that nobody writes. -/
import Derived.Test.YtcckofgleghbgaaDoorAct
namespace Go.Proofs.YtcckofgleghbgaaDoor
open Go Sx
theorem actRow_facts (t : Int) : 0 ≤ rowCount ((actRow t).getD []) ∧ rowCount ((actRow t).getD []) ≤ 2 := by
  unfold actRow
  repeat' split
  all_goals decide
def actNums (x : ActM) : List UInt64 := [x.a, x.b].take (rowCount ((actRow x.typ).getD [])).toNat
def actFits (x : ActM) : Bool := (rowPut ((actRow x.typ).getD []) (actNums x)).isSome
def actRight (x : ActM) : Bool :=
  if x.typ == 25 then x.a == 0 && x.b == 0 && ((x.data.length : Int) == 0) && actSettable x.set
  else if (!(actRow x.typ).isSome || !actBare x.set || actAsked x.typ x.a != 0) then false
  else if (!actFits x || (decide (rowCount ((actRow x.typ).getD []) < 2) && x.b != 0) || (decide (rowCount ((actRow x.typ).getD []) < 1) && x.a != 0)) then false
  else if x.typ != 65535 then (x.data.length : Int) == 0
  else (x.data.length : Int).tmod 8 == 0 && decide ((x.data.length : Int) ≤ 65520)
set_option maxHeartbeats 2000000 in
set_option maxRecDepth 100000 in
theorem action_Right {h : GH} {x : ActM} {sv sm sd : Sl} (hx : IsAct h x sv sm sd) : Ctr Tryd.prog 76 [actV x sv sm sd].toArray h [] fun r _ _ => r = .bool (actRight x) := by
  have hn := hx.data.n
  have hsm := hx.data.small
  obtain ⟨hr1, hr2⟩ := actRow_facts x.typ
  obtain ⟨k, hk⟩ := Int.eq_ofNat_of_zero_le hr1
  have hns : actNums x = [x.a, x.b].take k := by unfold actNums; rw [hk]; rfl
  have hk2 : k ≤ 2 := by omega
  refine Ctr.of_run Tryd.func76 rfl rfl rfl fun w0 => ?_
  refine Run.seq ?_
  refine Run.region' ?_
  refine RunL.boxA rfl rfl fun b1 => ?_
  refine RunL.pure rfl rfl (OpG.plain rfl (OpP.assign (Val.of rfl))) ?_
  refine RunL.nil ?_
  refine RunQ.then_normal ?_
  refine Run.seq ?_
  refine Run.seq ?_
  refine Run.region' ?_
  refine RunL.pure rfl rfl (OpG.plain rfl (OpP.fieldAddr (Val.of rfl) inferInstance)) ?_
  refine RunL.pure rfl rfl (OpG.plain rfl (by first | exact OpP.load1 (Val.of rfl) (fun _ => .own Take.head rfl) inferInstance | exact OpP.load1 (Val.of rfl) (fun _ => .own (Take.cons Take.head) rfl) inferInstance | exact OpP.load1 (Val.of rfl) (fun _ => .own (Take.cons (Take.cons Take.head)) rfl) inferInstance | exact OpP.load1 (Val.of rfl) (fun _ => .own (Take.cons (Take.cons (Take.cons Take.head))) rfl) inferInstance | exact OpP.load1 (Val.of rfl) (fun _ => .own (Take.cons (Take.cons (Take.cons (Take.cons Take.head)))) rfl) inferInstance | exact OpP.load1 (Val.of rfl) (fun _ => .own (Take.app Take.head) rfl) inferInstance | exact OpP.load1 (Val.of rfl) (fun _ => .own (Take.app (Take.cons Take.head)) rfl) inferInstance | exact OpP.load1 (Val.of rfl) (fun _ => .own (Take.cons (Take.app Take.head)) rfl) inferInstance | exact OpP.load1 (Val.of rfl) (fun _ => .own (Take.app (Take.cons (Take.cons Take.head))) rfl) inferInstance | exact OpP.load1 (Val.of rfl) (fun _ => .own (Take.cons (Take.app (Take.cons Take.head))) rfl) inferInstance | exact OpP.load1 (Val.of rfl) (fun _ => .own (Take.cons (Take.cons (Take.app Take.head))) rfl) inferInstance | exact OpP.load1 (Val.of rfl) (fun _ => .own (Take.app (Take.cons (Take.cons (Take.cons Take.head)))) rfl) inferInstance | exact OpP.load1 (Val.of rfl) (fun _ => .own (Take.cons (Take.app (Take.cons (Take.cons Take.head)))) rfl) inferInstance | exact OpP.load1 (Val.of rfl) (fun _ => .own (Take.cons (Take.cons (Take.app (Take.cons Take.head)))) rfl) inferInstance | exact OpP.load1 (Val.of rfl) (fun _ => .own (Take.cons (Take.cons (Take.cons (Take.app Take.head)))) rfl) inferInstance | exact OpP.load1 (Val.of rfl) (fun _ => .inl (by assumption)) inferInstance)) ?_
  refine RunL.pure rfl rfl (OpG.plain rfl (OpP.bin (Val.of rfl) (Val.of rfl) rfl)) ?_
  refine RunL.nil ?_
  refine RunQ.then_normal ?_
  refine Run.cond rfl (fun hc0 => ?_) (fun hc0 => ?_)
  · have h0 : (x.typ == 25) = true := hc0
    refine Run.seq ?_
    refine Run.region' ?_
    refine RunL.pure rfl rfl (OpG.plain rfl (OpP.fieldAddr (Val.of rfl) inferInstance)) ?_
    refine RunL.pure rfl rfl (OpG.plain rfl (by first | exact OpP.load1 (Val.of rfl) (fun _ => .own Take.head rfl) inferInstance | exact OpP.load1 (Val.of rfl) (fun _ => .own (Take.cons Take.head) rfl) inferInstance | exact OpP.load1 (Val.of rfl) (fun _ => .own (Take.cons (Take.cons Take.head)) rfl) inferInstance | exact OpP.load1 (Val.of rfl) (fun _ => .own (Take.cons (Take.cons (Take.cons Take.head))) rfl) inferInstance | exact OpP.load1 (Val.of rfl) (fun _ => .own (Take.cons (Take.cons (Take.cons (Take.cons Take.head)))) rfl) inferInstance | exact OpP.load1 (Val.of rfl) (fun _ => .own (Take.app Take.head) rfl) inferInstance | exact OpP.load1 (Val.of rfl) (fun _ => .own (Take.app (Take.cons Take.head)) rfl) inferInstance | exact OpP.load1 (Val.of rfl) (fun _ => .own (Take.cons (Take.app Take.head)) rfl) inferInstance | exact OpP.load1 (Val.of rfl) (fun _ => .own (Take.app (Take.cons (Take.cons Take.head))) rfl) inferInstance | exact OpP.load1 (Val.of rfl) (fun _ => .own (Take.cons (Take.app (Take.cons Take.head))) rfl) inferInstance | exact OpP.load1 (Val.of rfl) (fun _ => .own (Take.cons (Take.cons (Take.app Take.head))) rfl) inferInstance | exact OpP.load1 (Val.of rfl) (fun _ => .own (Take.app (Take.cons (Take.cons (Take.cons Take.head)))) rfl) inferInstance | exact OpP.load1 (Val.of rfl) (fun _ => .own (Take.cons (Take.app (Take.cons (Take.cons Take.head)))) rfl) inferInstance | exact OpP.load1 (Val.of rfl) (fun _ => .own (Take.cons (Take.cons (Take.app (Take.cons Take.head)))) rfl) inferInstance | exact OpP.load1 (Val.of rfl) (fun _ => .own (Take.cons (Take.cons (Take.cons (Take.app Take.head)))) rfl) inferInstance | exact OpP.load1 (Val.of rfl) (fun _ => .inl (by assumption)) inferInstance)) ?_
    refine RunL.pure rfl rfl (OpG.plain rfl (by first | exact OpP.eql_u64 (Val.of rfl) (Val.c64 (Val.of rfl) (by decide)) | exact OpP.bin (Val.of rfl) (Val.of rfl) rfl)) ?_
    refine RunL.pure rfl rfl (OpG.plain rfl (OpP.move (Val.of rfl))) ?_
    refine RunL.pure rfl rfl (OpG.onT rfl rfl rfl (OpP.fieldAddr (Val.of rfl) inferInstance)) ?_
    refine RunL.pure rfl rfl (OpG.onT rfl rfl rfl (by first | exact OpP.load1 (Val.lz rfl) (fun _ => .own Take.head rfl) inferInstance | exact OpP.load1 (Val.lz rfl) (fun _ => .own (Take.cons Take.head) rfl) inferInstance | exact OpP.load1 (Val.lz rfl) (fun _ => .own (Take.cons (Take.cons Take.head)) rfl) inferInstance | exact OpP.load1 (Val.lz rfl) (fun _ => .own (Take.cons (Take.cons (Take.cons Take.head))) rfl) inferInstance | exact OpP.load1 (Val.lz rfl) (fun _ => .own (Take.cons (Take.cons (Take.cons (Take.cons Take.head)))) rfl) inferInstance | exact OpP.load1 (Val.lz rfl) (fun _ => .own (Take.app Take.head) rfl) inferInstance | exact OpP.load1 (Val.lz rfl) (fun _ => .own (Take.app (Take.cons Take.head)) rfl) inferInstance | exact OpP.load1 (Val.lz rfl) (fun _ => .own (Take.cons (Take.app Take.head)) rfl) inferInstance | exact OpP.load1 (Val.lz rfl) (fun _ => .own (Take.app (Take.cons (Take.cons Take.head))) rfl) inferInstance | exact OpP.load1 (Val.lz rfl) (fun _ => .own (Take.cons (Take.app (Take.cons Take.head))) rfl) inferInstance | exact OpP.load1 (Val.lz rfl) (fun _ => .own (Take.cons (Take.cons (Take.app Take.head))) rfl) inferInstance | exact OpP.load1 (Val.lz rfl) (fun _ => .own (Take.app (Take.cons (Take.cons (Take.cons Take.head)))) rfl) inferInstance | exact OpP.load1 (Val.lz rfl) (fun _ => .own (Take.cons (Take.app (Take.cons (Take.cons Take.head)))) rfl) inferInstance | exact OpP.load1 (Val.lz rfl) (fun _ => .own (Take.cons (Take.cons (Take.app (Take.cons Take.head)))) rfl) inferInstance | exact OpP.load1 (Val.lz rfl) (fun _ => .own (Take.cons (Take.cons (Take.cons (Take.app Take.head)))) rfl) inferInstance | exact OpP.load1 (Val.lz rfl) (fun _ => .inl (by assumption)) inferInstance)) ?_
    refine RunL.pure rfl rfl (OpG.onT rfl rfl rfl (by first | exact OpP.eql_u64 (Val.lz rfl) (Val.c64 (Val.of rfl) (by decide)) | exact OpP.bin (Val.lz rfl) (Val.of rfl) rfl)) ?_
    refine RunL.pure rfl rfl (OpG.plain rfl (OpP.pick_and rfl rfl rfl)) ?_
    refine RunL.pure rfl rfl (OpG.plain rfl (OpP.move (Val.of rfl))) ?_
    refine RunL.pure rfl rfl (OpG.onT rfl rfl rfl (OpP.fieldAddr (Val.of rfl) inferInstance)) ?_
    refine RunL.pure rfl rfl (OpG.onT rfl rfl rfl (by first | exact OpP.load1 (Val.lz rfl) (fun _ => .own Take.head rfl) inferInstance | exact OpP.load1 (Val.lz rfl) (fun _ => .own (Take.cons Take.head) rfl) inferInstance | exact OpP.load1 (Val.lz rfl) (fun _ => .own (Take.cons (Take.cons Take.head)) rfl) inferInstance | exact OpP.load1 (Val.lz rfl) (fun _ => .own (Take.cons (Take.cons (Take.cons Take.head))) rfl) inferInstance | exact OpP.load1 (Val.lz rfl) (fun _ => .own (Take.cons (Take.cons (Take.cons (Take.cons Take.head)))) rfl) inferInstance | exact OpP.load1 (Val.lz rfl) (fun _ => .own (Take.app Take.head) rfl) inferInstance | exact OpP.load1 (Val.lz rfl) (fun _ => .own (Take.app (Take.cons Take.head)) rfl) inferInstance | exact OpP.load1 (Val.lz rfl) (fun _ => .own (Take.cons (Take.app Take.head)) rfl) inferInstance | exact OpP.load1 (Val.lz rfl) (fun _ => .own (Take.app (Take.cons (Take.cons Take.head))) rfl) inferInstance | exact OpP.load1 (Val.lz rfl) (fun _ => .own (Take.cons (Take.app (Take.cons Take.head))) rfl) inferInstance | exact OpP.load1 (Val.lz rfl) (fun _ => .own (Take.cons (Take.cons (Take.app Take.head))) rfl) inferInstance | exact OpP.load1 (Val.lz rfl) (fun _ => .own (Take.app (Take.cons (Take.cons (Take.cons Take.head)))) rfl) inferInstance | exact OpP.load1 (Val.lz rfl) (fun _ => .own (Take.cons (Take.app (Take.cons (Take.cons Take.head)))) rfl) inferInstance | exact OpP.load1 (Val.lz rfl) (fun _ => .own (Take.cons (Take.cons (Take.app (Take.cons Take.head)))) rfl) inferInstance | exact OpP.load1 (Val.lz rfl) (fun _ => .own (Take.cons (Take.cons (Take.cons (Take.app Take.head)))) rfl) inferInstance | exact OpP.load1 (Val.lz rfl) (fun _ => .inl (by assumption)) inferInstance)) ?_
    refine RunL.pure rfl rfl (OpG.onT rfl rfl rfl (OpP.lenSl (Val.lz rfl) inferInstance)) ?_
    refine RunL.pure rfl rfl (OpG.onT rfl rfl rfl (OpP.bin (Val.lz rfl) (Val.of rfl) rfl)) ?_
    refine RunL.pure rfl rfl (OpG.plain rfl (OpP.pick_and rfl rfl rfl)) ?_
    refine RunL.pure rfl rfl (OpG.plain rfl (OpP.move (Val.of rfl))) ?_
    refine RunL.pure rfl rfl (OpG.onT rfl rfl rfl (OpP.fieldAddr (Val.of rfl) inferInstance)) ?_
    refine RunL.pure rfl rfl (OpG.onT rfl rfl rfl (by first | exact OpP.loadW (Val.lz rfl) Take.head rfl inferInstance | exact OpP.loadW (Val.lz rfl) (Take.cons Take.head) rfl inferInstance | exact OpP.loadW (Val.lz rfl) (Take.cons (Take.cons Take.head)) rfl inferInstance | exact OpP.loadW (Val.lz rfl) (Take.cons (Take.cons (Take.cons Take.head))) rfl inferInstance | exact OpP.loadW (Val.lz rfl) (Take.cons (Take.cons (Take.cons (Take.cons Take.head)))) rfl inferInstance | exact OpP.loadW (Val.lz rfl) (Take.app Take.head) rfl inferInstance | exact OpP.loadW (Val.lz rfl) (Take.app (Take.cons Take.head)) rfl inferInstance | exact OpP.loadW (Val.lz rfl) (Take.cons (Take.app Take.head)) rfl inferInstance | exact OpP.loadW (Val.lz rfl) (Take.app (Take.cons (Take.cons Take.head))) rfl inferInstance | exact OpP.loadW (Val.lz rfl) (Take.cons (Take.app (Take.cons Take.head))) rfl inferInstance | exact OpP.loadW (Val.lz rfl) (Take.cons (Take.cons (Take.app Take.head))) rfl inferInstance | exact OpP.loadW (Val.lz rfl) (Take.app (Take.cons (Take.cons (Take.cons Take.head)))) rfl inferInstance | exact OpP.loadW (Val.lz rfl) (Take.cons (Take.app (Take.cons (Take.cons Take.head)))) rfl inferInstance | exact OpP.loadW (Val.lz rfl) (Take.cons (Take.cons (Take.app (Take.cons Take.head)))) rfl inferInstance | exact OpP.loadW (Val.lz rfl) (Take.cons (Take.cons (Take.cons (Take.app Take.head)))) rfl inferInstance | exact OpP.loadO inferInstance (Val.lz rfl) Take.head rfl | exact OpP.loadO inferInstance (Val.lz rfl) (Take.cons Take.head) rfl | exact OpP.loadO inferInstance (Val.lz rfl) (Take.cons (Take.cons Take.head)) rfl | exact OpP.loadO inferInstance (Val.lz rfl) (Take.cons (Take.cons (Take.cons Take.head))) rfl | exact OpP.loadO inferInstance (Val.lz rfl) (Take.cons (Take.cons (Take.cons (Take.cons Take.head)))) rfl | exact OpP.loadO inferInstance (Val.lz rfl) (Take.app Take.head) rfl | exact OpP.loadO inferInstance (Val.lz rfl) (Take.app (Take.cons Take.head)) rfl | exact OpP.loadO inferInstance (Val.lz rfl) (Take.cons (Take.app Take.head)) rfl | exact OpP.loadO inferInstance (Val.lz rfl) (Take.app (Take.cons (Take.cons Take.head))) rfl | exact OpP.loadO inferInstance (Val.lz rfl) (Take.cons (Take.app (Take.cons Take.head))) rfl | exact OpP.loadO inferInstance (Val.lz rfl) (Take.cons (Take.cons (Take.app Take.head))) rfl | exact OpP.loadO inferInstance (Val.lz rfl) (Take.app (Take.cons (Take.cons (Take.cons Take.head)))) rfl | exact OpP.loadO inferInstance (Val.lz rfl) (Take.cons (Take.app (Take.cons (Take.cons Take.head)))) rfl | exact OpP.loadO inferInstance (Val.lz rfl) (Take.cons (Take.cons (Take.app (Take.cons Take.head)))) rfl | exact OpP.loadO inferInstance (Val.lz rfl) (Take.cons (Take.cons (Take.cons (Take.app Take.head)))) rfl | exact OpP.loadN (Val.lz rfl) (fun _ => ReadsAll.ghost (by assumption)) rfl inferInstance)) ?_
    refine RunL.pure rfl rfl (OpG.onT rfl rfl rfl (OpP.call (by kernel_rfl) (.cons (Val.lz rfl) .nil) (fun hA => by first | (have hct := action_settable hx.set; exact hct) | exact action_settable hx.set))) ?_
    refine RunL.pure rfl rfl (OpG.plain rfl (OpP.pick_and rfl rfl rfl)) ?_
    refine RunL.pure rfl rfl (OpG.plain rfl (OpP.assign (Val.of rfl))) ?_
    refine RunL.nil ?_
    refine RunQ.then_normal ?_
    refine Run.ret ?_
    refine RunQ.then_ret ?_
    refine RunQ.ret1 rfl rfl ?_
    unfold actRight; rw [h0, ← hn]; rfl
  · have h0 : (x.typ == 25) = false := hc0
    refine Run.skip ?_
    refine RunQ.then_normal ?_
    refine Run.seq ?_
    refine Run.region' ?_
    refine RunL.pure rfl rfl (OpG.plain rfl (OpP.fieldAddr (Val.of rfl) inferInstance)) ?_
    refine RunL.pure rfl rfl (OpG.plain rfl (by first | exact OpP.load1 (Val.of rfl) (fun _ => .own Take.head rfl) inferInstance | exact OpP.load1 (Val.of rfl) (fun _ => .own (Take.cons Take.head) rfl) inferInstance | exact OpP.load1 (Val.of rfl) (fun _ => .own (Take.cons (Take.cons Take.head)) rfl) inferInstance | exact OpP.load1 (Val.of rfl) (fun _ => .own (Take.cons (Take.cons (Take.cons Take.head))) rfl) inferInstance | exact OpP.load1 (Val.of rfl) (fun _ => .own (Take.cons (Take.cons (Take.cons (Take.cons Take.head)))) rfl) inferInstance | exact OpP.load1 (Val.of rfl) (fun _ => .own (Take.app Take.head) rfl) inferInstance | exact OpP.load1 (Val.of rfl) (fun _ => .own (Take.app (Take.cons Take.head)) rfl) inferInstance | exact OpP.load1 (Val.of rfl) (fun _ => .own (Take.cons (Take.app Take.head)) rfl) inferInstance | exact OpP.load1 (Val.of rfl) (fun _ => .own (Take.app (Take.cons (Take.cons Take.head))) rfl) inferInstance | exact OpP.load1 (Val.of rfl) (fun _ => .own (Take.cons (Take.app (Take.cons Take.head))) rfl) inferInstance | exact OpP.load1 (Val.of rfl) (fun _ => .own (Take.cons (Take.cons (Take.app Take.head))) rfl) inferInstance | exact OpP.load1 (Val.of rfl) (fun _ => .own (Take.app (Take.cons (Take.cons (Take.cons Take.head)))) rfl) inferInstance | exact OpP.load1 (Val.of rfl) (fun _ => .own (Take.cons (Take.app (Take.cons (Take.cons Take.head)))) rfl) inferInstance | exact OpP.load1 (Val.of rfl) (fun _ => .own (Take.cons (Take.cons (Take.app (Take.cons Take.head)))) rfl) inferInstance | exact OpP.load1 (Val.of rfl) (fun _ => .own (Take.cons (Take.cons (Take.cons (Take.app Take.head)))) rfl) inferInstance | exact OpP.load1 (Val.of rfl) (fun _ => .inl (by assumption)) inferInstance)) ?_
    refine RunL.call rfl (by kernel_rfl) rfl Take.nothing action_rows (fun v h2 N2 hle hx2 => ?_)
    obtain ⟨hN, s2, hv, hs2⟩ := hx2
    subst hN hv
    have hx3 := hx.mono hle
    refine RunL.pure rfl rfl (OpG.plain rfl (OpP.move (Val.of rfl))) ?_
    refine RunL.pure rfl rfl (OpG.plain rfl (OpP.extract (Val.of rfl) rfl)) ?_
    refine RunL.pure rfl rfl (OpG.plain rfl (OpP.extract (Val.of rfl) rfl)) ?_
    refine RunL.pure rfl rfl (OpG.plain rfl (OpP.assign (Val.of rfl))) ?_
    refine RunL.pure rfl rfl (OpG.plain rfl (OpP.assign (Val.of rfl))) ?_
    refine RunL.nil ?_
    refine RunQ.then_normal ?_
    refine Run.seq ?_
    refine Run.seq ?_
    refine Run.region' ?_
    refine RunL.pure rfl rfl (OpG.plain rfl (OpP.move (Val.of rfl))) ?_
    refine RunL.pure rfl rfl (OpG.plain rfl (OpP.not (Val.of rfl))) ?_
    refine RunL.pure rfl rfl (OpG.plain rfl (OpP.move (Val.of rfl))) ?_
    refine RunL.pure rfl rfl (OpG.onF rfl rfl rfl (OpP.fieldAddr (Val.of rfl) inferInstance)) ?_
    refine RunL.pure rfl rfl (OpG.onF rfl rfl rfl (by first | exact OpP.loadW (Val.lz rfl) Take.head rfl inferInstance | exact OpP.loadW (Val.lz rfl) (Take.cons Take.head) rfl inferInstance | exact OpP.loadW (Val.lz rfl) (Take.cons (Take.cons Take.head)) rfl inferInstance | exact OpP.loadW (Val.lz rfl) (Take.cons (Take.cons (Take.cons Take.head))) rfl inferInstance | exact OpP.loadW (Val.lz rfl) (Take.cons (Take.cons (Take.cons (Take.cons Take.head)))) rfl inferInstance | exact OpP.loadW (Val.lz rfl) (Take.app Take.head) rfl inferInstance | exact OpP.loadW (Val.lz rfl) (Take.app (Take.cons Take.head)) rfl inferInstance | exact OpP.loadW (Val.lz rfl) (Take.cons (Take.app Take.head)) rfl inferInstance | exact OpP.loadW (Val.lz rfl) (Take.app (Take.cons (Take.cons Take.head))) rfl inferInstance | exact OpP.loadW (Val.lz rfl) (Take.cons (Take.app (Take.cons Take.head))) rfl inferInstance | exact OpP.loadW (Val.lz rfl) (Take.cons (Take.cons (Take.app Take.head))) rfl inferInstance | exact OpP.loadW (Val.lz rfl) (Take.app (Take.cons (Take.cons (Take.cons Take.head)))) rfl inferInstance | exact OpP.loadW (Val.lz rfl) (Take.cons (Take.app (Take.cons (Take.cons Take.head)))) rfl inferInstance | exact OpP.loadW (Val.lz rfl) (Take.cons (Take.cons (Take.app (Take.cons Take.head)))) rfl inferInstance | exact OpP.loadW (Val.lz rfl) (Take.cons (Take.cons (Take.cons (Take.app Take.head)))) rfl inferInstance | exact OpP.loadO inferInstance (Val.lz rfl) Take.head rfl | exact OpP.loadO inferInstance (Val.lz rfl) (Take.cons Take.head) rfl | exact OpP.loadO inferInstance (Val.lz rfl) (Take.cons (Take.cons Take.head)) rfl | exact OpP.loadO inferInstance (Val.lz rfl) (Take.cons (Take.cons (Take.cons Take.head))) rfl | exact OpP.loadO inferInstance (Val.lz rfl) (Take.cons (Take.cons (Take.cons (Take.cons Take.head)))) rfl | exact OpP.loadO inferInstance (Val.lz rfl) (Take.app Take.head) rfl | exact OpP.loadO inferInstance (Val.lz rfl) (Take.app (Take.cons Take.head)) rfl | exact OpP.loadO inferInstance (Val.lz rfl) (Take.cons (Take.app Take.head)) rfl | exact OpP.loadO inferInstance (Val.lz rfl) (Take.app (Take.cons (Take.cons Take.head))) rfl | exact OpP.loadO inferInstance (Val.lz rfl) (Take.cons (Take.app (Take.cons Take.head))) rfl | exact OpP.loadO inferInstance (Val.lz rfl) (Take.cons (Take.cons (Take.app Take.head))) rfl | exact OpP.loadO inferInstance (Val.lz rfl) (Take.app (Take.cons (Take.cons (Take.cons Take.head)))) rfl | exact OpP.loadO inferInstance (Val.lz rfl) (Take.cons (Take.app (Take.cons (Take.cons Take.head)))) rfl | exact OpP.loadO inferInstance (Val.lz rfl) (Take.cons (Take.cons (Take.app (Take.cons Take.head)))) rfl | exact OpP.loadO inferInstance (Val.lz rfl) (Take.cons (Take.cons (Take.cons (Take.app Take.head)))) rfl | exact OpP.loadN (Val.lz rfl) (fun _ => ReadsAll.ghost (by assumption)) rfl inferInstance)) ?_
    refine RunL.pure rfl rfl (OpG.onF rfl rfl rfl (OpP.call (by kernel_rfl) (.cons (Val.lz rfl) .nil) (fun hA => by first | (have hct := action_bare hx3.set; exact hct) | exact action_bare hx3.set))) ?_
    refine RunL.pure rfl rfl (OpG.onF rfl rfl rfl (OpP.not (Val.lz rfl))) ?_
    refine RunL.pure rfl rfl (OpG.plain rfl (OpP.pick_or rfl rfl rfl)) ?_
    refine RunL.pure rfl rfl (OpG.plain rfl (OpP.move (Val.of rfl))) ?_
    refine RunL.pure rfl rfl (OpG.onF rfl rfl rfl (OpP.fieldAddr (Val.of rfl) inferInstance)) ?_
    refine RunL.pure rfl rfl (OpG.onF rfl rfl rfl (by first | exact OpP.load1 (Val.lz rfl) (fun _ => .own Take.head rfl) inferInstance | exact OpP.load1 (Val.lz rfl) (fun _ => .own (Take.cons Take.head) rfl) inferInstance | exact OpP.load1 (Val.lz rfl) (fun _ => .own (Take.cons (Take.cons Take.head)) rfl) inferInstance | exact OpP.load1 (Val.lz rfl) (fun _ => .own (Take.cons (Take.cons (Take.cons Take.head))) rfl) inferInstance | exact OpP.load1 (Val.lz rfl) (fun _ => .own (Take.cons (Take.cons (Take.cons (Take.cons Take.head)))) rfl) inferInstance | exact OpP.load1 (Val.lz rfl) (fun _ => .own (Take.app Take.head) rfl) inferInstance | exact OpP.load1 (Val.lz rfl) (fun _ => .own (Take.app (Take.cons Take.head)) rfl) inferInstance | exact OpP.load1 (Val.lz rfl) (fun _ => .own (Take.cons (Take.app Take.head)) rfl) inferInstance | exact OpP.load1 (Val.lz rfl) (fun _ => .own (Take.app (Take.cons (Take.cons Take.head))) rfl) inferInstance | exact OpP.load1 (Val.lz rfl) (fun _ => .own (Take.cons (Take.app (Take.cons Take.head))) rfl) inferInstance | exact OpP.load1 (Val.lz rfl) (fun _ => .own (Take.cons (Take.cons (Take.app Take.head))) rfl) inferInstance | exact OpP.load1 (Val.lz rfl) (fun _ => .own (Take.app (Take.cons (Take.cons (Take.cons Take.head)))) rfl) inferInstance | exact OpP.load1 (Val.lz rfl) (fun _ => .own (Take.cons (Take.app (Take.cons (Take.cons Take.head)))) rfl) inferInstance | exact OpP.load1 (Val.lz rfl) (fun _ => .own (Take.cons (Take.cons (Take.app (Take.cons Take.head)))) rfl) inferInstance | exact OpP.load1 (Val.lz rfl) (fun _ => .own (Take.cons (Take.cons (Take.cons (Take.app Take.head)))) rfl) inferInstance | exact OpP.load1 (Val.lz rfl) (fun _ => .inl (by assumption)) inferInstance)) ?_
    refine RunL.pure rfl rfl (OpG.onF rfl rfl rfl (OpP.fieldAddr (Val.of rfl) inferInstance)) ?_
    refine RunL.pure rfl rfl (OpG.onF rfl rfl rfl (by first | exact OpP.load1 (Val.lz rfl) (fun _ => .own Take.head rfl) inferInstance | exact OpP.load1 (Val.lz rfl) (fun _ => .own (Take.cons Take.head) rfl) inferInstance | exact OpP.load1 (Val.lz rfl) (fun _ => .own (Take.cons (Take.cons Take.head)) rfl) inferInstance | exact OpP.load1 (Val.lz rfl) (fun _ => .own (Take.cons (Take.cons (Take.cons Take.head))) rfl) inferInstance | exact OpP.load1 (Val.lz rfl) (fun _ => .own (Take.cons (Take.cons (Take.cons (Take.cons Take.head)))) rfl) inferInstance | exact OpP.load1 (Val.lz rfl) (fun _ => .own (Take.app Take.head) rfl) inferInstance | exact OpP.load1 (Val.lz rfl) (fun _ => .own (Take.app (Take.cons Take.head)) rfl) inferInstance | exact OpP.load1 (Val.lz rfl) (fun _ => .own (Take.cons (Take.app Take.head)) rfl) inferInstance | exact OpP.load1 (Val.lz rfl) (fun _ => .own (Take.app (Take.cons (Take.cons Take.head))) rfl) inferInstance | exact OpP.load1 (Val.lz rfl) (fun _ => .own (Take.cons (Take.app (Take.cons Take.head))) rfl) inferInstance | exact OpP.load1 (Val.lz rfl) (fun _ => .own (Take.cons (Take.cons (Take.app Take.head))) rfl) inferInstance | exact OpP.load1 (Val.lz rfl) (fun _ => .own (Take.app (Take.cons (Take.cons (Take.cons Take.head)))) rfl) inferInstance | exact OpP.load1 (Val.lz rfl) (fun _ => .own (Take.cons (Take.app (Take.cons (Take.cons Take.head)))) rfl) inferInstance | exact OpP.load1 (Val.lz rfl) (fun _ => .own (Take.cons (Take.cons (Take.app (Take.cons Take.head)))) rfl) inferInstance | exact OpP.load1 (Val.lz rfl) (fun _ => .own (Take.cons (Take.cons (Take.cons (Take.app Take.head)))) rfl) inferInstance | exact OpP.load1 (Val.lz rfl) (fun _ => .inl (by assumption)) inferInstance)) ?_
    refine RunL.pure rfl rfl (OpG.onF rfl rfl rfl (OpP.call (by kernel_rfl) (.cons (Val.lz rfl) (.cons (Val.lz rfl) .nil)) (fun hA => by first | (have hct := action_asked; exact hct) | exact action_asked))) ?_
    refine RunL.pure rfl rfl (OpG.onF rfl rfl rfl (OpP.bin (Val.lz rfl) (Val.of rfl) rfl)) ?_
    refine RunL.pure rfl rfl (OpG.plain rfl (OpP.pick_or rfl rfl rfl)) ?_
    refine RunL.nil ?_
    refine RunQ.then_normal ?_
    refine Run.cond rfl (fun hc1 => ?_) (fun hc1 => ?_)
    · have h1 : (!(actRow x.typ).isSome || !actBare x.set || actAsked x.typ x.a != 0) = true := hc1
      refine Run.seq ?_
      refine Run.region' ?_
      refine RunL.pure rfl rfl (OpG.plain rfl (OpP.assign (Val.of rfl))) ?_
      refine RunL.nil ?_
      refine RunQ.then_normal ?_
      refine Run.ret ?_
      refine RunQ.then_ret ?_
      refine RunQ.ret1 rfl rfl ?_
      unfold actRight; rw [h0, h1]; rfl
    · have h1 : (!(actRow x.typ).isSome || !actBare x.set || actAsked x.typ x.a != 0) = false := hc1
      refine Run.skip ?_
      refine RunQ.then_normal ?_
      refine Run.seq ?_
      refine Run.region' ?_
      refine RunL.pure rfl rfl (OpG.plain rfl (OpP.move (Val.of rfl))) ?_
      refine RunL.pure rfl rfl (OpG.plain rfl (OpP.call (by kernel_rfl) (.cons (Val.of rfl) .nil) (fun hA => by have := row_Count (h := h2) hs2; rw [hk] at this; exact this))) ?_
      refine RunL.pure rfl rfl (OpG.plain rfl (OpP.assign (Val.of rfl))) ?_
      refine RunL.nil ?_
      refine RunQ.then_normal ?_
      refine Run.seq ?_
      refine Run.region' ?_
      refine RunL.pure rfl rfl (OpG.plain rfl (OpP.move (Val.of rfl))) ?_
      refine RunL.pure rfl rfl (OpG.plain rfl (OpP.fieldAddr (Val.of rfl) inferInstance)) ?_
      refine RunL.pure rfl rfl (OpG.plain rfl (by first | exact OpP.load1 (Val.of rfl) (fun _ => .own Take.head rfl) inferInstance | exact OpP.load1 (Val.of rfl) (fun _ => .own (Take.cons Take.head) rfl) inferInstance | exact OpP.load1 (Val.of rfl) (fun _ => .own (Take.cons (Take.cons Take.head)) rfl) inferInstance | exact OpP.load1 (Val.of rfl) (fun _ => .own (Take.cons (Take.cons (Take.cons Take.head))) rfl) inferInstance | exact OpP.load1 (Val.of rfl) (fun _ => .own (Take.cons (Take.cons (Take.cons (Take.cons Take.head)))) rfl) inferInstance | exact OpP.load1 (Val.of rfl) (fun _ => .own (Take.app Take.head) rfl) inferInstance | exact OpP.load1 (Val.of rfl) (fun _ => .own (Take.app (Take.cons Take.head)) rfl) inferInstance | exact OpP.load1 (Val.of rfl) (fun _ => .own (Take.cons (Take.app Take.head)) rfl) inferInstance | exact OpP.load1 (Val.of rfl) (fun _ => .own (Take.app (Take.cons (Take.cons Take.head))) rfl) inferInstance | exact OpP.load1 (Val.of rfl) (fun _ => .own (Take.cons (Take.app (Take.cons Take.head))) rfl) inferInstance | exact OpP.load1 (Val.of rfl) (fun _ => .own (Take.cons (Take.cons (Take.app Take.head))) rfl) inferInstance | exact OpP.load1 (Val.of rfl) (fun _ => .own (Take.app (Take.cons (Take.cons (Take.cons Take.head)))) rfl) inferInstance | exact OpP.load1 (Val.of rfl) (fun _ => .own (Take.cons (Take.app (Take.cons (Take.cons Take.head)))) rfl) inferInstance | exact OpP.load1 (Val.of rfl) (fun _ => .own (Take.cons (Take.cons (Take.app (Take.cons Take.head)))) rfl) inferInstance | exact OpP.load1 (Val.of rfl) (fun _ => .own (Take.cons (Take.cons (Take.cons (Take.app Take.head)))) rfl) inferInstance | exact OpP.load1 (Val.of rfl) (fun _ => .inl (by assumption)) inferInstance)) ?_
      refine RunL.pure rfl rfl (OpG.plain rfl (OpP.fieldAddr (Val.of rfl) inferInstance)) ?_
      refine RunL.pure rfl rfl (OpG.plain rfl (by first | exact OpP.load1 (Val.of rfl) (fun _ => .own Take.head rfl) inferInstance | exact OpP.load1 (Val.of rfl) (fun _ => .own (Take.cons Take.head) rfl) inferInstance | exact OpP.load1 (Val.of rfl) (fun _ => .own (Take.cons (Take.cons Take.head)) rfl) inferInstance | exact OpP.load1 (Val.of rfl) (fun _ => .own (Take.cons (Take.cons (Take.cons Take.head))) rfl) inferInstance | exact OpP.load1 (Val.of rfl) (fun _ => .own (Take.cons (Take.cons (Take.cons (Take.cons Take.head)))) rfl) inferInstance | exact OpP.load1 (Val.of rfl) (fun _ => .own (Take.app Take.head) rfl) inferInstance | exact OpP.load1 (Val.of rfl) (fun _ => .own (Take.app (Take.cons Take.head)) rfl) inferInstance | exact OpP.load1 (Val.of rfl) (fun _ => .own (Take.cons (Take.app Take.head)) rfl) inferInstance | exact OpP.load1 (Val.of rfl) (fun _ => .own (Take.app (Take.cons (Take.cons Take.head))) rfl) inferInstance | exact OpP.load1 (Val.of rfl) (fun _ => .own (Take.cons (Take.app (Take.cons Take.head))) rfl) inferInstance | exact OpP.load1 (Val.of rfl) (fun _ => .own (Take.cons (Take.cons (Take.app Take.head))) rfl) inferInstance | exact OpP.load1 (Val.of rfl) (fun _ => .own (Take.app (Take.cons (Take.cons (Take.cons Take.head)))) rfl) inferInstance | exact OpP.load1 (Val.of rfl) (fun _ => .own (Take.cons (Take.app (Take.cons (Take.cons Take.head)))) rfl) inferInstance | exact OpP.load1 (Val.of rfl) (fun _ => .own (Take.cons (Take.cons (Take.app (Take.cons Take.head)))) rfl) inferInstance | exact OpP.load1 (Val.of rfl) (fun _ => .own (Take.cons (Take.cons (Take.cons (Take.app Take.head)))) rfl) inferInstance | exact OpP.load1 (Val.of rfl) (fun _ => .inl (by assumption)) inferInstance)) ?_
      refine RunL.buildSlice inferInstance inferInstance inferInstance rfl rfl rfl rfl rfl rfl fun b2 => ?_
      refine RunL.pure rfl rfl (OpG.plain rfl (OpP.move (Val.of rfl))) ?_
      refine RunL.pure rfl rfl (OpG.plain rfl (by first | exact OpP.sliceHi (Val.of rfl) (Val.of rfl) (fun _ => by omega) inferInstance ⟨_, inferInstance⟩ | exact OpP.sliceHiI (Val.of rfl) (Val.of rfl) (fun _ => by omega) (fun _ => by omega) inferInstance ⟨_, inferInstance⟩)) ?_
      refine RunL.freezeB (m := 2) (size := 1) (c := [u64v x.a, u64v x.b]) Take.head rfl (by simp [maxLen]) fun h4 hle4 hs4 => ?_
      have hi4 : IsNums h4 ⟨some ⟨b2, 0, none⟩, 2, 2⟩ [x.a, x.b] := ⟨hs4, by simp⟩
      have hi5 : IsNums h4 ⟨some ⟨b2, 0, none⟩, k, 2⟩ (actNums x) := by rw [hns]; exact hi4.take _ (by simp; omega)
      have hct := row_PutI (hs2.mono hle4) hi5
      refine RunL.call rfl (by kernel_rfl) rfl Take.nothing hct (fun v h6 N6 hle6 hx6 => ?_)
      obtain ⟨hN6, s6, hv6, hb6⟩ := hx6
      subst hN6 hv6
      refine RunL.pure rfl rfl (OpG.plain rfl (OpP.move (Val.of rfl))) ?_
      refine RunL.pure rfl rfl (OpG.plain rfl (OpP.extract (Val.of rfl) rfl)) ?_
      refine RunL.pure rfl rfl (OpG.plain rfl (OpP.extract (Val.of rfl) rfl)) ?_
      refine RunL.pure rfl rfl (OpG.plain rfl (OpP.assign (Val.of rfl))) ?_
      refine RunL.pure rfl rfl (OpG.plain rfl (OpP.assign (Val.of rfl))) ?_
      refine RunL.nil ?_
      refine RunQ.then_normal ?_
      refine Run.seq ?_
      refine Run.seq ?_
      refine Run.region' ?_
      refine RunL.pure rfl rfl (OpG.plain rfl (OpP.move (Val.of rfl))) ?_
      refine RunL.pure rfl rfl (OpG.plain rfl (OpP.not (Val.of rfl))) ?_
      refine RunL.pure rfl rfl (OpG.plain rfl (OpP.move (Val.of rfl))) ?_
      refine RunL.pure rfl rfl (OpG.onF rfl rfl rfl (OpP.move (Val.of rfl))) ?_
      refine RunL.pure rfl rfl (OpG.onF rfl rfl rfl (OpP.bin (Val.lz rfl) (Val.of rfl) rfl)) ?_
      refine RunL.pure rfl rfl (OpG.onF rfl rfl rfl (OpP.move (Val.lz rfl))) ?_
      refine RunL.pure rfl rfl (OpG.onT' rfl rfl rfl (OpP.fieldAddr (Val.of rfl) inferInstance)) ?_
      refine RunL.pure rfl rfl (OpG.onT' rfl rfl rfl (by first | exact OpP.load1 (Val.lz rfl) (fun _ => .own Take.head rfl) inferInstance | exact OpP.load1 (Val.lz rfl) (fun _ => .own (Take.cons Take.head) rfl) inferInstance | exact OpP.load1 (Val.lz rfl) (fun _ => .own (Take.cons (Take.cons Take.head)) rfl) inferInstance | exact OpP.load1 (Val.lz rfl) (fun _ => .own (Take.cons (Take.cons (Take.cons Take.head))) rfl) inferInstance | exact OpP.load1 (Val.lz rfl) (fun _ => .own (Take.cons (Take.cons (Take.cons (Take.cons Take.head)))) rfl) inferInstance | exact OpP.load1 (Val.lz rfl) (fun _ => .own (Take.app Take.head) rfl) inferInstance | exact OpP.load1 (Val.lz rfl) (fun _ => .own (Take.app (Take.cons Take.head)) rfl) inferInstance | exact OpP.load1 (Val.lz rfl) (fun _ => .own (Take.cons (Take.app Take.head)) rfl) inferInstance | exact OpP.load1 (Val.lz rfl) (fun _ => .own (Take.app (Take.cons (Take.cons Take.head))) rfl) inferInstance | exact OpP.load1 (Val.lz rfl) (fun _ => .own (Take.cons (Take.app (Take.cons Take.head))) rfl) inferInstance | exact OpP.load1 (Val.lz rfl) (fun _ => .own (Take.cons (Take.cons (Take.app Take.head))) rfl) inferInstance | exact OpP.load1 (Val.lz rfl) (fun _ => .own (Take.app (Take.cons (Take.cons (Take.cons Take.head)))) rfl) inferInstance | exact OpP.load1 (Val.lz rfl) (fun _ => .own (Take.cons (Take.app (Take.cons (Take.cons Take.head)))) rfl) inferInstance | exact OpP.load1 (Val.lz rfl) (fun _ => .own (Take.cons (Take.cons (Take.app (Take.cons Take.head)))) rfl) inferInstance | exact OpP.load1 (Val.lz rfl) (fun _ => .own (Take.cons (Take.cons (Take.cons (Take.app Take.head)))) rfl) inferInstance | exact OpP.load1 (Val.lz rfl) (fun _ => .inl (by assumption)) inferInstance)) ?_
      refine RunL.pure rfl rfl (OpG.onT' rfl rfl rfl (by first | exact OpP.neq_u64 (Val.lz rfl) (Val.c64 (Val.of rfl) (by decide)) | exact OpP.bin (Val.lz rfl) (Val.of rfl) rfl)) ?_
      refine RunL.pure rfl rfl (OpG.onF rfl rfl rfl (OpP.pick_and' rfl rfl rfl)) ?_
      refine RunL.pure rfl rfl (OpG.plain rfl (OpP.pick_or rfl rfl rfl)) ?_
      refine RunL.pure rfl rfl (OpG.plain rfl (OpP.move (Val.of rfl))) ?_
      refine RunL.pure rfl rfl (OpG.onF rfl rfl rfl (OpP.move (Val.of rfl))) ?_
      refine RunL.pure rfl rfl (OpG.onF rfl rfl rfl (OpP.bin (Val.lz rfl) (Val.of rfl) rfl)) ?_
      refine RunL.pure rfl rfl (OpG.onF rfl rfl rfl (OpP.move (Val.lz rfl))) ?_
      refine RunL.pure rfl rfl (OpG.onT' rfl rfl rfl (OpP.fieldAddr (Val.of rfl) inferInstance)) ?_
      refine RunL.pure rfl rfl (OpG.onT' rfl rfl rfl (by first | exact OpP.load1 (Val.lz rfl) (fun _ => .own Take.head rfl) inferInstance | exact OpP.load1 (Val.lz rfl) (fun _ => .own (Take.cons Take.head) rfl) inferInstance | exact OpP.load1 (Val.lz rfl) (fun _ => .own (Take.cons (Take.cons Take.head)) rfl) inferInstance | exact OpP.load1 (Val.lz rfl) (fun _ => .own (Take.cons (Take.cons (Take.cons Take.head))) rfl) inferInstance | exact OpP.load1 (Val.lz rfl) (fun _ => .own (Take.cons (Take.cons (Take.cons (Take.cons Take.head)))) rfl) inferInstance | exact OpP.load1 (Val.lz rfl) (fun _ => .own (Take.app Take.head) rfl) inferInstance | exact OpP.load1 (Val.lz rfl) (fun _ => .own (Take.app (Take.cons Take.head)) rfl) inferInstance | exact OpP.load1 (Val.lz rfl) (fun _ => .own (Take.cons (Take.app Take.head)) rfl) inferInstance | exact OpP.load1 (Val.lz rfl) (fun _ => .own (Take.app (Take.cons (Take.cons Take.head))) rfl) inferInstance | exact OpP.load1 (Val.lz rfl) (fun _ => .own (Take.cons (Take.app (Take.cons Take.head))) rfl) inferInstance | exact OpP.load1 (Val.lz rfl) (fun _ => .own (Take.cons (Take.cons (Take.app Take.head))) rfl) inferInstance | exact OpP.load1 (Val.lz rfl) (fun _ => .own (Take.app (Take.cons (Take.cons (Take.cons Take.head)))) rfl) inferInstance | exact OpP.load1 (Val.lz rfl) (fun _ => .own (Take.cons (Take.app (Take.cons (Take.cons Take.head)))) rfl) inferInstance | exact OpP.load1 (Val.lz rfl) (fun _ => .own (Take.cons (Take.cons (Take.app (Take.cons Take.head)))) rfl) inferInstance | exact OpP.load1 (Val.lz rfl) (fun _ => .own (Take.cons (Take.cons (Take.cons (Take.app Take.head)))) rfl) inferInstance | exact OpP.load1 (Val.lz rfl) (fun _ => .inl (by assumption)) inferInstance)) ?_
      refine RunL.pure rfl rfl (OpG.onT' rfl rfl rfl (by first | exact OpP.neq_u64 (Val.lz rfl) (Val.c64 (Val.of rfl) (by decide)) | exact OpP.bin (Val.lz rfl) (Val.of rfl) rfl)) ?_
      refine RunL.pure rfl rfl (OpG.onF rfl rfl rfl (OpP.pick_and' rfl rfl rfl)) ?_
      refine RunL.pure rfl rfl (OpG.plain rfl (OpP.pick_or rfl rfl rfl)) ?_
      refine RunL.nil ?_
      refine RunQ.then_normal ?_
      refine Run.cond rfl (fun hc2 => ?_) (fun hc2 => ?_)
      · have h2 : (!actFits x || (decide (rowCount ((actRow x.typ).getD []) < 2) && x.b != 0) || (decide (rowCount ((actRow x.typ).getD []) < 1) && x.a != 0)) = true := by rw [hk]; exact hc2
        refine Run.seq ?_
        refine Run.region' ?_
        refine RunL.pure rfl rfl (OpG.plain rfl (OpP.assign (Val.of rfl))) ?_
        refine RunL.nil ?_
        refine RunQ.then_normal ?_
        refine Run.ret ?_
        refine RunQ.then_ret ?_
        refine RunQ.ret1 rfl rfl ?_
        unfold actRight; rw [h0, h1, h2]; rfl
      · have h2 : (!actFits x || (decide (rowCount ((actRow x.typ).getD []) < 2) && x.b != 0) || (decide (rowCount ((actRow x.typ).getD []) < 1) && x.a != 0)) = false := by rw [hk]; exact hc2
        refine Run.skip ?_
        refine RunQ.then_normal ?_
        refine Run.seq ?_
        refine Run.seq ?_
        refine Run.region' ?_
        refine RunL.pure rfl rfl (OpG.plain rfl (OpP.fieldAddr (Val.of rfl) inferInstance)) ?_
        refine RunL.pure rfl rfl (OpG.plain rfl (by first | exact OpP.load1 (Val.of rfl) (fun _ => .own Take.head rfl) inferInstance | exact OpP.load1 (Val.of rfl) (fun _ => .own (Take.cons Take.head) rfl) inferInstance | exact OpP.load1 (Val.of rfl) (fun _ => .own (Take.cons (Take.cons Take.head)) rfl) inferInstance | exact OpP.load1 (Val.of rfl) (fun _ => .own (Take.cons (Take.cons (Take.cons Take.head))) rfl) inferInstance | exact OpP.load1 (Val.of rfl) (fun _ => .own (Take.cons (Take.cons (Take.cons (Take.cons Take.head)))) rfl) inferInstance | exact OpP.load1 (Val.of rfl) (fun _ => .own (Take.app Take.head) rfl) inferInstance | exact OpP.load1 (Val.of rfl) (fun _ => .own (Take.app (Take.cons Take.head)) rfl) inferInstance | exact OpP.load1 (Val.of rfl) (fun _ => .own (Take.cons (Take.app Take.head)) rfl) inferInstance | exact OpP.load1 (Val.of rfl) (fun _ => .own (Take.app (Take.cons (Take.cons Take.head))) rfl) inferInstance | exact OpP.load1 (Val.of rfl) (fun _ => .own (Take.cons (Take.app (Take.cons Take.head))) rfl) inferInstance | exact OpP.load1 (Val.of rfl) (fun _ => .own (Take.cons (Take.cons (Take.app Take.head))) rfl) inferInstance | exact OpP.load1 (Val.of rfl) (fun _ => .own (Take.app (Take.cons (Take.cons (Take.cons Take.head)))) rfl) inferInstance | exact OpP.load1 (Val.of rfl) (fun _ => .own (Take.cons (Take.app (Take.cons (Take.cons Take.head)))) rfl) inferInstance | exact OpP.load1 (Val.of rfl) (fun _ => .own (Take.cons (Take.cons (Take.app (Take.cons Take.head)))) rfl) inferInstance | exact OpP.load1 (Val.of rfl) (fun _ => .own (Take.cons (Take.cons (Take.cons (Take.app Take.head)))) rfl) inferInstance | exact OpP.load1 (Val.of rfl) (fun _ => .inl (by assumption)) inferInstance)) ?_
        refine RunL.pure rfl rfl (OpG.plain rfl (OpP.bin (Val.of rfl) (Val.of rfl) rfl)) ?_
        refine RunL.nil ?_
        refine RunQ.then_normal ?_
        refine Run.cond rfl (fun hc3 => ?_) (fun hc3 => ?_)
        · have h3 : (x.typ != 65535) = true := hc3
          refine Run.seq ?_
          refine Run.region' ?_
          refine RunL.pure rfl rfl (OpG.plain rfl (OpP.fieldAddr (Val.of rfl) inferInstance)) ?_
          refine RunL.pure rfl rfl (OpG.plain rfl (by first | exact OpP.load1 (Val.of rfl) (fun _ => .own Take.head rfl) inferInstance | exact OpP.load1 (Val.of rfl) (fun _ => .own (Take.cons Take.head) rfl) inferInstance | exact OpP.load1 (Val.of rfl) (fun _ => .own (Take.cons (Take.cons Take.head)) rfl) inferInstance | exact OpP.load1 (Val.of rfl) (fun _ => .own (Take.cons (Take.cons (Take.cons Take.head))) rfl) inferInstance | exact OpP.load1 (Val.of rfl) (fun _ => .own (Take.cons (Take.cons (Take.cons (Take.cons Take.head)))) rfl) inferInstance | exact OpP.load1 (Val.of rfl) (fun _ => .own (Take.app Take.head) rfl) inferInstance | exact OpP.load1 (Val.of rfl) (fun _ => .own (Take.app (Take.cons Take.head)) rfl) inferInstance | exact OpP.load1 (Val.of rfl) (fun _ => .own (Take.cons (Take.app Take.head)) rfl) inferInstance | exact OpP.load1 (Val.of rfl) (fun _ => .own (Take.app (Take.cons (Take.cons Take.head))) rfl) inferInstance | exact OpP.load1 (Val.of rfl) (fun _ => .own (Take.cons (Take.app (Take.cons Take.head))) rfl) inferInstance | exact OpP.load1 (Val.of rfl) (fun _ => .own (Take.cons (Take.cons (Take.app Take.head))) rfl) inferInstance | exact OpP.load1 (Val.of rfl) (fun _ => .own (Take.app (Take.cons (Take.cons (Take.cons Take.head)))) rfl) inferInstance | exact OpP.load1 (Val.of rfl) (fun _ => .own (Take.cons (Take.app (Take.cons (Take.cons Take.head)))) rfl) inferInstance | exact OpP.load1 (Val.of rfl) (fun _ => .own (Take.cons (Take.cons (Take.app (Take.cons Take.head)))) rfl) inferInstance | exact OpP.load1 (Val.of rfl) (fun _ => .own (Take.cons (Take.cons (Take.cons (Take.app Take.head)))) rfl) inferInstance | exact OpP.load1 (Val.of rfl) (fun _ => .inl (by assumption)) inferInstance)) ?_
          refine RunL.pure rfl rfl (OpG.plain rfl (OpP.lenSl (Val.of rfl) inferInstance)) ?_
          refine RunL.pure rfl rfl (OpG.plain rfl (OpP.bin (Val.of rfl) (Val.of rfl) rfl)) ?_
          refine RunL.pure rfl rfl (OpG.plain rfl (OpP.assign (Val.of rfl))) ?_
          refine RunL.nil ?_
          refine RunQ.then_normal ?_
          refine Run.ret ?_
          refine RunQ.then_ret ?_
          refine RunQ.ret1 rfl rfl ?_
          unfold actRight; rw [h0, h1, h2, h3, ← hn]; rfl
        · have h3 : (x.typ != 65535) = false := hc3
          refine Run.skip ?_
          refine RunQ.then_normal ?_
          refine Run.seq ?_
          refine Run.region' ?_
          refine RunL.pure rfl rfl (OpG.plain rfl (OpP.fieldAddr (Val.of rfl) inferInstance)) ?_
          refine RunL.pure rfl rfl (OpG.plain rfl (by first | exact OpP.load1 (Val.of rfl) (fun _ => .own Take.head rfl) inferInstance | exact OpP.load1 (Val.of rfl) (fun _ => .own (Take.cons Take.head) rfl) inferInstance | exact OpP.load1 (Val.of rfl) (fun _ => .own (Take.cons (Take.cons Take.head)) rfl) inferInstance | exact OpP.load1 (Val.of rfl) (fun _ => .own (Take.cons (Take.cons (Take.cons Take.head))) rfl) inferInstance | exact OpP.load1 (Val.of rfl) (fun _ => .own (Take.cons (Take.cons (Take.cons (Take.cons Take.head)))) rfl) inferInstance | exact OpP.load1 (Val.of rfl) (fun _ => .own (Take.app Take.head) rfl) inferInstance | exact OpP.load1 (Val.of rfl) (fun _ => .own (Take.app (Take.cons Take.head)) rfl) inferInstance | exact OpP.load1 (Val.of rfl) (fun _ => .own (Take.cons (Take.app Take.head)) rfl) inferInstance | exact OpP.load1 (Val.of rfl) (fun _ => .own (Take.app (Take.cons (Take.cons Take.head))) rfl) inferInstance | exact OpP.load1 (Val.of rfl) (fun _ => .own (Take.cons (Take.app (Take.cons Take.head))) rfl) inferInstance | exact OpP.load1 (Val.of rfl) (fun _ => .own (Take.cons (Take.cons (Take.app Take.head))) rfl) inferInstance | exact OpP.load1 (Val.of rfl) (fun _ => .own (Take.app (Take.cons (Take.cons (Take.cons Take.head)))) rfl) inferInstance | exact OpP.load1 (Val.of rfl) (fun _ => .own (Take.cons (Take.app (Take.cons (Take.cons Take.head)))) rfl) inferInstance | exact OpP.load1 (Val.of rfl) (fun _ => .own (Take.cons (Take.cons (Take.app (Take.cons Take.head)))) rfl) inferInstance | exact OpP.load1 (Val.of rfl) (fun _ => .own (Take.cons (Take.cons (Take.cons (Take.app Take.head)))) rfl) inferInstance | exact OpP.load1 (Val.of rfl) (fun _ => .inl (by assumption)) inferInstance)) ?_
          refine RunL.pure rfl rfl (OpG.plain rfl (OpP.lenSl (Val.of rfl) inferInstance)) ?_
          refine RunL.pure rfl rfl (OpG.plain rfl (by first | exact OpP.rem (Val.of rfl) (Val.of rfl) (by decide) | exact OpP.rem (Val.of rfl) (Val.of rfl) (by omega))) ?_
          refine RunL.pure rfl rfl (OpG.plain rfl (OpP.bin (Val.of rfl) (Val.of rfl) rfl)) ?_
          refine RunL.pure rfl rfl (OpG.plain rfl (OpP.move (Val.of rfl))) ?_
          refine RunL.pure rfl rfl (OpG.onT rfl rfl rfl (OpP.fieldAddr (Val.of rfl) inferInstance)) ?_
          refine RunL.pure rfl rfl (OpG.onT rfl rfl rfl (by first | exact OpP.load1 (Val.lz rfl) (fun _ => .own Take.head rfl) inferInstance | exact OpP.load1 (Val.lz rfl) (fun _ => .own (Take.cons Take.head) rfl) inferInstance | exact OpP.load1 (Val.lz rfl) (fun _ => .own (Take.cons (Take.cons Take.head)) rfl) inferInstance | exact OpP.load1 (Val.lz rfl) (fun _ => .own (Take.cons (Take.cons (Take.cons Take.head))) rfl) inferInstance | exact OpP.load1 (Val.lz rfl) (fun _ => .own (Take.cons (Take.cons (Take.cons (Take.cons Take.head)))) rfl) inferInstance | exact OpP.load1 (Val.lz rfl) (fun _ => .own (Take.app Take.head) rfl) inferInstance | exact OpP.load1 (Val.lz rfl) (fun _ => .own (Take.app (Take.cons Take.head)) rfl) inferInstance | exact OpP.load1 (Val.lz rfl) (fun _ => .own (Take.cons (Take.app Take.head)) rfl) inferInstance | exact OpP.load1 (Val.lz rfl) (fun _ => .own (Take.app (Take.cons (Take.cons Take.head))) rfl) inferInstance | exact OpP.load1 (Val.lz rfl) (fun _ => .own (Take.cons (Take.app (Take.cons Take.head))) rfl) inferInstance | exact OpP.load1 (Val.lz rfl) (fun _ => .own (Take.cons (Take.cons (Take.app Take.head))) rfl) inferInstance | exact OpP.load1 (Val.lz rfl) (fun _ => .own (Take.app (Take.cons (Take.cons (Take.cons Take.head)))) rfl) inferInstance | exact OpP.load1 (Val.lz rfl) (fun _ => .own (Take.cons (Take.app (Take.cons (Take.cons Take.head)))) rfl) inferInstance | exact OpP.load1 (Val.lz rfl) (fun _ => .own (Take.cons (Take.cons (Take.app (Take.cons Take.head)))) rfl) inferInstance | exact OpP.load1 (Val.lz rfl) (fun _ => .own (Take.cons (Take.cons (Take.cons (Take.app Take.head)))) rfl) inferInstance | exact OpP.load1 (Val.lz rfl) (fun _ => .inl (by assumption)) inferInstance)) ?_
          refine RunL.pure rfl rfl (OpG.onT rfl rfl rfl (OpP.lenSl (Val.lz rfl) inferInstance)) ?_
          refine RunL.pure rfl rfl (OpG.onT rfl rfl rfl (OpP.bin (Val.lz rfl) (Val.of rfl) rfl)) ?_
          refine RunL.pure rfl rfl (OpG.plain rfl (OpP.pick_and rfl rfl rfl)) ?_
          refine RunL.pure rfl rfl (OpG.plain rfl (OpP.assign (Val.of rfl))) ?_
          refine RunL.nil ?_
          refine RunQ.then_normal ?_
          refine Run.ret ?_
          refine RunQ.ret1 rfl rfl ?_
          unfold actRight; rw [h0, h1, h2, h3, ← hn]; rfl
theorem Ctr.freeze1 {P : Program} {f : FuncId} {args : Array Value} {h : GH} {L : Own} {R R' : Value → GH → Own → Prop}
    (hs : Ctr P f args h L R) (hr : ∀ v h' N, GH.le h h' → R v h' N → ∃ (b : Nat) (o : Obj) (N' : Own), Take [(b, o)] N N' ∧ ∀ h'', GH.le h' h'' → h'' b = some o → R' v h'' N') : Ctr P f args h L R' := fun w hw =>
  (hs w hw).mono fun _ _ ⟨v, h', N, he, r, st⟩ => by
    obtain ⟨b, o, N', ht, hr'⟩ := hr v h' N st.gle r
    obtain ⟨h1, h2⟩ := (st.perm ht).freeze
    exact ⟨v, _, N', he, hr' _ h2 (GH.put_same ..), h1⟩
theorem IsSl.block {h : GH} {b size m : Nat} {c : List Value} {T : TypeId} (hb : h b = some (.cells c.toArray T)) (hl : c.length = m * size) (hm : m ≤ maxLen) : IsSl h size ⟨some ⟨b, 0, none⟩, m, m⟩ c :=
  ⟨hl, Nat.le_refl _, hm, .inr ⟨b, 0, rfl, fun i v hi => by simpa [GH.cell, hb] using hi⟩, fun e => (by cases e), fun a e _ => (by cases e; rfl)⟩
theorem IsOxm.copied {h : GH} {a : OxmM} {c : Nat} {T : TypeId} (hsum : a.val.length + a.mask.length ≤ 140737488355328) (hb : h c = some (.cells ((a.val ++ a.mask).map u8v).toArray T)) : IsOxm h a (copyV a c) (copyM a c) := by
  have h0 : IsBytes h ⟨some ⟨c, 0, none⟩, a.val.length + a.mask.length, a.val.length + a.mask.length⟩ (a.val ++ a.mask) :=
    ⟨IsSl.block hb (by simp) (by simp [maxLen]; omega), by simp; omega⟩
  constructor
  · have := h0.cut3 0 a.val.length a.val.length (by omega) (by simp) (by omega) (by show a.val.length ≤ a.val.length + a.mask.length; omega)
    rw [slAt_one] at this
    simp only [Nat.sub_zero, List.drop_zero, List.take_left] at this
    by_cases hz : a.val.length = 0
    · rw [if_pos hz] at this; exact this
    · rw [if_neg hz] at this; exact this
  · have := h0.cut3 a.val.length (a.val.length + a.mask.length) (a.val.length + a.mask.length) (by omega) (by simp) (by omega) (by simp)
    rw [slAt_one] at this
    simp only [List.drop_left] at this
    rw [show a.val.length + a.mask.length - a.val.length = a.mask.length by omega, List.take_of_length_le (Nat.le_refl _)] at this
    exact this
set_option maxRecDepth 100000 in
/-- A copy that nobody writes. -/
theorem oxm_CopyI {h : GH} {a : OxmM} {sv sm : Sl} (ha : IsOxm h a sv sm) (hsum : a.val.length + a.mask.length ≤ 140737488355328) : Ctr Tryd.prog 35 [oxmV a sv sm].toArray h [] fun r h' N => N = [] ∧ ∃ sv' sm' : Sl, r = oxmV a sv' sm' ∧ IsOxm h' a sv' sm' :=
  Ctr.freeze1 (oxm_Copy ha hsum) fun v h' N _ ⟨_, b, hv, hN⟩ => ⟨b, .cells ((a.val ++ a.mask).map u8v).toArray 5, [], by rw [hN]; exact Take.whole, fun h'' _ hb => ⟨rfl, _, _, hv, .copied hsum hb⟩⟩
set_option maxHeartbeats 2000000 in
set_option maxRecDepth 100000 in
theorem action_Copy {h : GH} {x : ActM} {sv sm sd : Sl} (hx : IsAct h x sv sm sd) (hsum : x.set.val.length + x.set.mask.length ≤ 140737488355328) : Ctr Tryd.prog 49 [actV x sv sm sd].toArray h [] fun r h' N => h' = h ∧ ∃ b c, r = actV x (copyV x.set c) (copyM x.set c) ⟨some ⟨b, 0, none⟩, x.data.length, x.data.length⟩ ∧ N = [(c, .cells ((x.set.val ++ x.set.mask).map u8v).toArray 5), (b, .cells (x.data.map u8v).toArray 5)] := by
  have hn := hx.data.n
  have hs := hx.data.small
  refine Ctr.weak (R := fun r h' N => h' = h ∧ ∃ b c R0, r = actV x (copyV x.set c) (copyM x.set c) ⟨some ⟨b, 0, none⟩, x.data.length, x.data.length⟩ ∧ Take [(c, .cells ((x.set.val ++ x.set.mask).map u8v).toArray 5), (b, .cells (x.data.map u8v).toArray 5)] N R0) ?_ (fun v h' N _ ⟨h1, b, c, R0, h2, h3⟩ => ⟨_, R0, h3, h1, b, c, h2, rfl⟩)
  refine Ctr.of_run Tryd.func49 rfl rfl rfl fun w0 => ?_
  refine Run.seq ?_
  refine Run.region' ?_
  refine RunL.boxA rfl rfl fun b1 => ?_
  refine RunL.alloc inferInstance rfl rfl fun b2 => ?_
  refine RunL.nil ?_
  refine RunQ.then_normal ?_
  refine Run.seq ?_
  refine Run.region' ?_
  refine RunL.pure rfl rfl (OpG.plain rfl (OpP.fieldAddr (Val.of rfl) inferInstance)) ?_
  refine RunL.pure rfl rfl (OpG.plain rfl (by first | exact OpP.load1 (Val.of rfl) (fun _ => .own Take.head rfl) inferInstance | exact OpP.load1 (Val.of rfl) (fun _ => .own (Take.cons Take.head) rfl) inferInstance | exact OpP.load1 (Val.of rfl) (fun _ => .own (Take.cons (Take.cons Take.head)) rfl) inferInstance | exact OpP.load1 (Val.of rfl) (fun _ => .own (Take.cons (Take.cons (Take.cons Take.head))) rfl) inferInstance | exact OpP.load1 (Val.of rfl) (fun _ => .own (Take.cons (Take.cons (Take.cons (Take.cons Take.head)))) rfl) inferInstance | exact OpP.load1 (Val.of rfl) (fun _ => .own (Take.app Take.head) rfl) inferInstance | exact OpP.load1 (Val.of rfl) (fun _ => .own (Take.app (Take.cons Take.head)) rfl) inferInstance | exact OpP.load1 (Val.of rfl) (fun _ => .own (Take.cons (Take.app Take.head)) rfl) inferInstance | exact OpP.load1 (Val.of rfl) (fun _ => .own (Take.app (Take.cons (Take.cons Take.head))) rfl) inferInstance | exact OpP.load1 (Val.of rfl) (fun _ => .own (Take.cons (Take.app (Take.cons Take.head))) rfl) inferInstance | exact OpP.load1 (Val.of rfl) (fun _ => .own (Take.cons (Take.cons (Take.app Take.head))) rfl) inferInstance | exact OpP.load1 (Val.of rfl) (fun _ => .own (Take.app (Take.cons (Take.cons (Take.cons Take.head)))) rfl) inferInstance | exact OpP.load1 (Val.of rfl) (fun _ => .own (Take.cons (Take.app (Take.cons (Take.cons Take.head)))) rfl) inferInstance | exact OpP.load1 (Val.of rfl) (fun _ => .own (Take.cons (Take.cons (Take.app (Take.cons Take.head)))) rfl) inferInstance | exact OpP.load1 (Val.of rfl) (fun _ => .own (Take.cons (Take.cons (Take.cons (Take.app Take.head)))) rfl) inferInstance | exact OpP.load1 (Val.of rfl) (fun _ => .inl (by assumption)) inferInstance)) ?_
  refine RunL.pure rfl rfl (OpG.plain rfl (OpP.lenSl (Val.of rfl) inferInstance)) ?_
  refine RunL.makeSlice (m := sd.n) (c := sd.n) inferInstance inferInstance inferInstance inferInstance rfl rfl rfl rfl rfl (Nat.le_refl _) (by simp; omega) (by omega) fun b3 => ?_
  rw [show (Value.int IntKind.u8 0).cells.toList = [Value.int IntKind.u8 0] from rfl]
  refine RunL.pure rfl rfl (OpG.plain rfl (OpP.assign (Val.of rfl))) ?_
  refine RunL.nil ?_
  refine RunQ.then_normal ?_
  refine Run.seq ?_
  refine Run.region' ?_
  refine RunL.pure rfl rfl (OpG.plain rfl (OpP.move (Val.of rfl))) ?_
  refine RunL.pure rfl rfl (OpG.plain rfl (OpP.fieldAddr (Val.of rfl) inferInstance)) ?_
  refine RunL.pure rfl rfl (OpG.plain rfl (by first | exact OpP.load1 (Val.of rfl) (fun _ => .own Take.head rfl) inferInstance | exact OpP.load1 (Val.of rfl) (fun _ => .own (Take.cons Take.head) rfl) inferInstance | exact OpP.load1 (Val.of rfl) (fun _ => .own (Take.cons (Take.cons Take.head)) rfl) inferInstance | exact OpP.load1 (Val.of rfl) (fun _ => .own (Take.cons (Take.cons (Take.cons Take.head))) rfl) inferInstance | exact OpP.load1 (Val.of rfl) (fun _ => .own (Take.cons (Take.cons (Take.cons (Take.cons Take.head)))) rfl) inferInstance | exact OpP.load1 (Val.of rfl) (fun _ => .own (Take.app Take.head) rfl) inferInstance | exact OpP.load1 (Val.of rfl) (fun _ => .own (Take.app (Take.cons Take.head)) rfl) inferInstance | exact OpP.load1 (Val.of rfl) (fun _ => .own (Take.cons (Take.app Take.head)) rfl) inferInstance | exact OpP.load1 (Val.of rfl) (fun _ => .own (Take.app (Take.cons (Take.cons Take.head))) rfl) inferInstance | exact OpP.load1 (Val.of rfl) (fun _ => .own (Take.cons (Take.app (Take.cons Take.head))) rfl) inferInstance | exact OpP.load1 (Val.of rfl) (fun _ => .own (Take.cons (Take.cons (Take.app Take.head))) rfl) inferInstance | exact OpP.load1 (Val.of rfl) (fun _ => .own (Take.app (Take.cons (Take.cons (Take.cons Take.head)))) rfl) inferInstance | exact OpP.load1 (Val.of rfl) (fun _ => .own (Take.cons (Take.app (Take.cons (Take.cons Take.head)))) rfl) inferInstance | exact OpP.load1 (Val.of rfl) (fun _ => .own (Take.cons (Take.cons (Take.app (Take.cons Take.head)))) rfl) inferInstance | exact OpP.load1 (Val.of rfl) (fun _ => .own (Take.cons (Take.cons (Take.cons (Take.app Take.head)))) rfl) inferInstance | exact OpP.load1 (Val.of rfl) (fun _ => .inl (by assumption)) inferInstance)) ?_
  refine RunL.copy (k := sd.n) (r := sd) (ys := x.data.map u8v) inferInstance inferInstance rfl rfl rfl Take.head (SrcAt.ghost hx.data.sl) (by intro u hu; obtain ⟨c, _, rfl⟩ := List.mem_map.1 hu; rfl) (by omega) (by simp [repZ_length]) ?_
  rw [show (x.data.map u8v).take (sd.n * 1) = x.data.map u8v from List.take_of_length_le (by simp [hn])]
  have hput : putAt (repZ [Value.int IntKind.u8 0] sd.n) 0 (x.data.map u8v) = x.data.map u8v := by
    rw [putAt_eq _ 0 _ (by simp [repZ_length, hn])]
    simp [repZ_length, hn]
  rw [hput]
  refine RunL.nil ?_
  refine RunQ.then_normal ?_
  refine Run.seq ?_
  refine Run.region' ?_
  refine RunL.pure rfl rfl (OpG.plain rfl (OpP.move (Val.of rfl))) ?_
  refine RunL.pure rfl rfl (OpG.plain rfl (OpP.fieldAddr (Val.of rfl) inferInstance)) ?_
  refine RunL.pure rfl rfl (OpG.plain rfl (by first | exact OpP.loadW (Val.of rfl) Take.head rfl inferInstance | exact OpP.loadW (Val.of rfl) (Take.cons Take.head) rfl inferInstance | exact OpP.loadW (Val.of rfl) (Take.cons (Take.cons Take.head)) rfl inferInstance | exact OpP.loadW (Val.of rfl) (Take.cons (Take.cons (Take.cons Take.head))) rfl inferInstance | exact OpP.loadW (Val.of rfl) (Take.cons (Take.cons (Take.cons (Take.cons Take.head)))) rfl inferInstance | exact OpP.loadW (Val.of rfl) (Take.app Take.head) rfl inferInstance | exact OpP.loadW (Val.of rfl) (Take.app (Take.cons Take.head)) rfl inferInstance | exact OpP.loadW (Val.of rfl) (Take.cons (Take.app Take.head)) rfl inferInstance | exact OpP.loadW (Val.of rfl) (Take.app (Take.cons (Take.cons Take.head))) rfl inferInstance | exact OpP.loadW (Val.of rfl) (Take.cons (Take.app (Take.cons Take.head))) rfl inferInstance | exact OpP.loadW (Val.of rfl) (Take.cons (Take.cons (Take.app Take.head))) rfl inferInstance | exact OpP.loadW (Val.of rfl) (Take.app (Take.cons (Take.cons (Take.cons Take.head)))) rfl inferInstance | exact OpP.loadW (Val.of rfl) (Take.cons (Take.app (Take.cons (Take.cons Take.head)))) rfl inferInstance | exact OpP.loadW (Val.of rfl) (Take.cons (Take.cons (Take.app (Take.cons Take.head)))) rfl inferInstance | exact OpP.loadW (Val.of rfl) (Take.cons (Take.cons (Take.cons (Take.app Take.head)))) rfl inferInstance | exact OpP.loadO inferInstance (Val.of rfl) Take.head rfl | exact OpP.loadO inferInstance (Val.of rfl) (Take.cons Take.head) rfl | exact OpP.loadO inferInstance (Val.of rfl) (Take.cons (Take.cons Take.head)) rfl | exact OpP.loadO inferInstance (Val.of rfl) (Take.cons (Take.cons (Take.cons Take.head))) rfl | exact OpP.loadO inferInstance (Val.of rfl) (Take.cons (Take.cons (Take.cons (Take.cons Take.head)))) rfl | exact OpP.loadO inferInstance (Val.of rfl) (Take.app Take.head) rfl | exact OpP.loadO inferInstance (Val.of rfl) (Take.app (Take.cons Take.head)) rfl | exact OpP.loadO inferInstance (Val.of rfl) (Take.cons (Take.app Take.head)) rfl | exact OpP.loadO inferInstance (Val.of rfl) (Take.app (Take.cons (Take.cons Take.head))) rfl | exact OpP.loadO inferInstance (Val.of rfl) (Take.cons (Take.app (Take.cons Take.head))) rfl | exact OpP.loadO inferInstance (Val.of rfl) (Take.cons (Take.cons (Take.app Take.head))) rfl | exact OpP.loadO inferInstance (Val.of rfl) (Take.app (Take.cons (Take.cons (Take.cons Take.head)))) rfl | exact OpP.loadO inferInstance (Val.of rfl) (Take.cons (Take.app (Take.cons (Take.cons Take.head)))) rfl | exact OpP.loadO inferInstance (Val.of rfl) (Take.cons (Take.cons (Take.app (Take.cons Take.head)))) rfl | exact OpP.loadO inferInstance (Val.of rfl) (Take.cons (Take.cons (Take.cons (Take.app Take.head)))) rfl | exact OpP.loadN (Val.of rfl) (fun _ => ReadsAll.ghost (by assumption)) rfl inferInstance)) ?_
  refine RunL.call rfl (by kernel_rfl) rfl Take.nothing (oxm_Copy hx.set hsum) (fun v h2 N2 hle2 hx2 => ?_)
  obtain ⟨he2, c2, hv2, hN2⟩ := hx2
  subst he2 hv2 hN2
  refine RunL.pure rfl rfl (OpG.plain rfl (OpP.fieldAddr (Val.of rfl) inferInstance)) ?_
  apply RunL.store inferInstance rfl rfl
  · first | exact Take.head | exact (Take.cons Take.head) | exact (Take.cons (Take.cons Take.head)) | exact (Take.cons (Take.cons (Take.cons Take.head))) | exact (Take.cons (Take.cons (Take.cons (Take.cons Take.head)))) | exact (Take.app Take.head) | exact (Take.app (Take.cons Take.head)) | exact (Take.cons (Take.app Take.head)) | exact (Take.app (Take.cons (Take.cons Take.head))) | exact (Take.cons (Take.app (Take.cons Take.head))) | exact (Take.cons (Take.cons (Take.app Take.head))) | exact (Take.app (Take.cons (Take.cons (Take.cons Take.head)))) | exact (Take.cons (Take.app (Take.cons (Take.cons Take.head)))) | exact (Take.cons (Take.cons (Take.app (Take.cons Take.head)))) | exact (Take.cons (Take.cons (Take.cons (Take.app Take.head))))
  · rfl
  · rfl
  · rfl
  · rfl
  refine RunL.pure rfl rfl (OpG.plain rfl (OpP.fieldAddr (Val.of rfl) inferInstance)) ?_
  apply RunL.store inferInstance rfl rfl
  · first | exact Take.head | exact (Take.cons Take.head) | exact (Take.cons (Take.cons Take.head)) | exact (Take.cons (Take.cons (Take.cons Take.head))) | exact (Take.cons (Take.cons (Take.cons (Take.cons Take.head)))) | exact (Take.app Take.head) | exact (Take.app (Take.cons Take.head)) | exact (Take.cons (Take.app Take.head)) | exact (Take.app (Take.cons (Take.cons Take.head))) | exact (Take.cons (Take.app (Take.cons Take.head))) | exact (Take.cons (Take.cons (Take.app Take.head))) | exact (Take.app (Take.cons (Take.cons (Take.cons Take.head)))) | exact (Take.cons (Take.app (Take.cons (Take.cons Take.head)))) | exact (Take.cons (Take.cons (Take.app (Take.cons Take.head)))) | exact (Take.cons (Take.cons (Take.cons (Take.app Take.head))))
  · rfl
  · rfl
  · rfl
  · rfl
  refine RunL.nil ?_
  refine RunQ.then_normal ?_
  refine Run.seq ?_
  refine Run.region' ?_
  refine RunL.pure rfl rfl (OpG.plain rfl (by first | exact OpP.loadW (Val.of rfl) Take.head rfl inferInstance | exact OpP.loadW (Val.of rfl) (Take.cons Take.head) rfl inferInstance | exact OpP.loadW (Val.of rfl) (Take.cons (Take.cons Take.head)) rfl inferInstance | exact OpP.loadW (Val.of rfl) (Take.cons (Take.cons (Take.cons Take.head))) rfl inferInstance | exact OpP.loadW (Val.of rfl) (Take.cons (Take.cons (Take.cons (Take.cons Take.head)))) rfl inferInstance | exact OpP.loadW (Val.of rfl) (Take.app Take.head) rfl inferInstance | exact OpP.loadW (Val.of rfl) (Take.app (Take.cons Take.head)) rfl inferInstance | exact OpP.loadW (Val.of rfl) (Take.cons (Take.app Take.head)) rfl inferInstance | exact OpP.loadW (Val.of rfl) (Take.app (Take.cons (Take.cons Take.head))) rfl inferInstance | exact OpP.loadW (Val.of rfl) (Take.cons (Take.app (Take.cons Take.head))) rfl inferInstance | exact OpP.loadW (Val.of rfl) (Take.cons (Take.cons (Take.app Take.head))) rfl inferInstance | exact OpP.loadW (Val.of rfl) (Take.app (Take.cons (Take.cons (Take.cons Take.head)))) rfl inferInstance | exact OpP.loadW (Val.of rfl) (Take.cons (Take.app (Take.cons (Take.cons Take.head)))) rfl inferInstance | exact OpP.loadW (Val.of rfl) (Take.cons (Take.cons (Take.app (Take.cons Take.head)))) rfl inferInstance | exact OpP.loadW (Val.of rfl) (Take.cons (Take.cons (Take.cons (Take.app Take.head)))) rfl inferInstance | exact OpP.loadO inferInstance (Val.of rfl) Take.head rfl | exact OpP.loadO inferInstance (Val.of rfl) (Take.cons Take.head) rfl | exact OpP.loadO inferInstance (Val.of rfl) (Take.cons (Take.cons Take.head)) rfl | exact OpP.loadO inferInstance (Val.of rfl) (Take.cons (Take.cons (Take.cons Take.head))) rfl | exact OpP.loadO inferInstance (Val.of rfl) (Take.cons (Take.cons (Take.cons (Take.cons Take.head)))) rfl | exact OpP.loadO inferInstance (Val.of rfl) (Take.app Take.head) rfl | exact OpP.loadO inferInstance (Val.of rfl) (Take.app (Take.cons Take.head)) rfl | exact OpP.loadO inferInstance (Val.of rfl) (Take.cons (Take.app Take.head)) rfl | exact OpP.loadO inferInstance (Val.of rfl) (Take.app (Take.cons (Take.cons Take.head))) rfl | exact OpP.loadO inferInstance (Val.of rfl) (Take.cons (Take.app (Take.cons Take.head))) rfl | exact OpP.loadO inferInstance (Val.of rfl) (Take.cons (Take.cons (Take.app Take.head))) rfl | exact OpP.loadO inferInstance (Val.of rfl) (Take.app (Take.cons (Take.cons (Take.cons Take.head)))) rfl | exact OpP.loadO inferInstance (Val.of rfl) (Take.cons (Take.app (Take.cons (Take.cons Take.head)))) rfl | exact OpP.loadO inferInstance (Val.of rfl) (Take.cons (Take.cons (Take.app (Take.cons Take.head)))) rfl | exact OpP.loadO inferInstance (Val.of rfl) (Take.cons (Take.cons (Take.cons (Take.app Take.head)))) rfl | exact OpP.loadN (Val.of rfl) (fun _ => ReadsAll.ghost (by assumption)) rfl inferInstance)) ?_
  apply RunL.store inferInstance rfl rfl
  · first | exact Take.head | exact (Take.cons Take.head) | exact (Take.cons (Take.cons Take.head)) | exact (Take.cons (Take.cons (Take.cons Take.head))) | exact (Take.cons (Take.cons (Take.cons (Take.cons Take.head)))) | exact (Take.app Take.head) | exact (Take.app (Take.cons Take.head)) | exact (Take.cons (Take.app Take.head)) | exact (Take.app (Take.cons (Take.cons Take.head))) | exact (Take.cons (Take.app (Take.cons Take.head))) | exact (Take.cons (Take.cons (Take.app Take.head))) | exact (Take.app (Take.cons (Take.cons (Take.cons Take.head)))) | exact (Take.cons (Take.app (Take.cons (Take.cons Take.head)))) | exact (Take.cons (Take.cons (Take.app (Take.cons Take.head)))) | exact (Take.cons (Take.cons (Take.cons (Take.app Take.head))))
  · rfl
  · rfl
  · rfl
  · rfl
  refine RunL.nil ?_
  refine RunQ.then_normal ?_
  refine Run.ret ?_
  refine RunQ.retc1 rfl rfl (by first | exact CellV.many inferInstance Take.head rfl | exact CellV.many inferInstance (Take.cons Take.head) rfl | exact CellV.many inferInstance (Take.cons (Take.cons Take.head)) rfl | exact CellV.many inferInstance (Take.cons (Take.cons (Take.cons Take.head))) rfl | exact CellV.many inferInstance (Take.cons (Take.cons (Take.cons (Take.cons Take.head)))) rfl | exact CellV.many inferInstance (Take.app Take.head) rfl | exact CellV.many inferInstance (Take.app (Take.cons Take.head)) rfl | exact CellV.many inferInstance (Take.cons (Take.app Take.head)) rfl | exact CellV.many inferInstance (Take.app (Take.cons (Take.cons Take.head))) rfl | exact CellV.many inferInstance (Take.cons (Take.app (Take.cons Take.head))) rfl | exact CellV.many inferInstance (Take.cons (Take.cons (Take.app Take.head))) rfl | exact CellV.many inferInstance (Take.app (Take.cons (Take.cons (Take.cons Take.head)))) rfl | exact CellV.many inferInstance (Take.cons (Take.app (Take.cons (Take.cons Take.head)))) rfl | exact CellV.many inferInstance (Take.cons (Take.cons (Take.app (Take.cons Take.head)))) rfl | exact CellV.many inferInstance (Take.cons (Take.cons (Take.cons (Take.app Take.head)))) rfl | exact CellV.one inferInstance Take.head rfl | exact CellV.one inferInstance (Take.cons Take.head) rfl | exact CellV.one inferInstance (Take.cons (Take.cons Take.head)) rfl | exact CellV.one inferInstance (Take.cons (Take.cons (Take.cons Take.head))) rfl | exact CellV.one inferInstance (Take.cons (Take.cons (Take.cons (Take.cons Take.head)))) rfl | exact CellV.one inferInstance (Take.app Take.head) rfl | exact CellV.one inferInstance (Take.app (Take.cons Take.head)) rfl | exact CellV.one inferInstance (Take.cons (Take.app Take.head)) rfl | exact CellV.one inferInstance (Take.app (Take.cons (Take.cons Take.head))) rfl | exact CellV.one inferInstance (Take.cons (Take.app (Take.cons Take.head))) rfl | exact CellV.one inferInstance (Take.cons (Take.cons (Take.app Take.head))) rfl | exact CellV.one inferInstance (Take.app (Take.cons (Take.cons (Take.cons Take.head)))) rfl | exact CellV.one inferInstance (Take.cons (Take.app (Take.cons (Take.cons Take.head)))) rfl | exact CellV.one inferInstance (Take.cons (Take.cons (Take.app (Take.cons Take.head)))) rfl | exact CellV.one inferInstance (Take.cons (Take.cons (Take.cons (Take.app Take.head)))) rfl)  ?_
  exact ⟨rfl, b3, c2, _, by rw [← hn], Take.two (Take.cons (Take.cons Take.head)) (Take.cons (Take.cons Take.head))⟩
end Go.Proofs.YtcckofgleghbgaaDoor
