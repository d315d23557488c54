/- Contracts: package action: rows, asked, settable, bare, Right, Copy. -/
import Derived.Test.YtcckofgleghbgaaDoorNeed
import Derived.Test.YtcckofgleghbgaaDoorBuf
namespace Go.Proofs.YtcckofgleghbgaaDoor
open Go Sx
/-- An action. -/
structure ActM where
  typ : Int
  a : UInt64
  b : UInt64
  set : OxmM
  data : List UInt8
  deriving DecidableEq, Inhabited
abbrev actV (x : ActM) (sv sm sd : Sl) : Value := .agg #[i64v x.typ, u64v x.a, u64v x.b, i64v x.set.cls, i64v x.set.fld, .bool x.set.has, u64v x.set.exp, sv.v, sm.v, sd.v]
structure IsAct (h : GH) (x : ActM) (sv sm sd : Sl) : Prop where
  set : IsOxm h x.set sv sm
  data : IsBytes h sd x.data
theorem IsAct.mono {h h' : GH} {x : ActM} {sv sm sd : Sl} (hl : GH.le h h') (ho : IsAct h x sv sm sd) : IsAct h' x sv sm sd := ⟨ho.set.mono hl, ho.data.mono hl⟩
def fset (n : Int) : Bool := fis n && decide (n > 2) && n != 39
set_option maxRecDepth 100000 in
theorem field_Settable {h : GH} {n : Int} : Ctr Tryd.prog 111 [i64v n].toArray h [] fun r _ _ => r = .bool (fset n) := by
  refine Ctr.of_run Tryd.func111 rfl rfl rfl fun w0 => ?_
  refine Run.seq ?_
  refine Run.region' ?_
  refine RunL.pure rfl rfl (OpG.plain rfl (OpP.assign (Val.of rfl))) ?_
  refine RunL.nil ?_
  refine RunQ.then_normal ?_
  refine Run.seq ?_
  refine Run.region' ?_
  refine RunL.pure rfl rfl (OpG.plain rfl (OpP.move (Val.of rfl))) ?_
  refine RunL.pure rfl rfl (OpG.plain rfl (OpP.call (by kernel_rfl) (.cons (Val.of rfl) .nil) (fun hA => by first | (have hct := field_is n; exact hct) | exact field_is n))) ?_
  refine RunL.pure rfl rfl (OpG.plain rfl (OpP.move (Val.of rfl))) ?_
  refine RunL.pure rfl rfl (OpG.onT rfl rfl rfl (OpP.move (Val.of rfl))) ?_
  refine RunL.pure rfl rfl (OpG.onT rfl rfl rfl (OpP.bin (Val.lz rfl) (Val.of rfl) rfl)) ?_
  refine RunL.pure rfl rfl (OpG.plain rfl (OpP.pick_and rfl rfl rfl)) ?_
  refine RunL.pure rfl rfl (OpG.plain rfl (OpP.move (Val.of rfl))) ?_
  refine RunL.pure rfl rfl (OpG.onT rfl rfl rfl (OpP.move (Val.of rfl))) ?_
  refine RunL.pure rfl rfl (OpG.onT rfl rfl rfl (OpP.bin (Val.lz rfl) (Val.of rfl) rfl)) ?_
  refine RunL.pure rfl rfl (OpG.plain rfl (OpP.pick_and rfl rfl rfl)) ?_
  refine RunL.pure rfl rfl (OpG.plain rfl (OpP.assign (Val.of rfl))) ?_
  refine RunL.nil ?_
  refine RunQ.then_normal ?_
  refine Run.ret ?_
  refine RunQ.ret1 rfl rfl ?_
  rfl
def actSettable (o : OxmM) : Bool := o.cls == 32768 && !o.has && fset o.fld && oxmRight o
set_option maxRecDepth 100000 in
theorem action_settable {h : GH} {o : OxmM} {sv sm : Sl} (ho : IsOxm h o sv sm) : Ctr Tryd.prog 92 [oxmV o sv sm].toArray h [] fun r _ _ => r = .bool (actSettable o) := by
  refine Ctr.of_run Tryd.func92 rfl rfl rfl fun w0 => ?_
  refine Run.seq ?_
  refine Run.region' ?_
  refine RunL.boxA rfl rfl fun b1 => ?_
  refine RunL.pure rfl rfl (OpG.plain rfl (OpP.assign (Val.of rfl))) ?_
  refine RunL.nil ?_
  refine RunQ.then_normal ?_
  refine Run.seq ?_
  refine Run.region' ?_
  refine RunL.pure rfl rfl (OpG.plain rfl (OpP.fieldAddr (Val.of rfl) inferInstance)) ?_
  refine RunL.pure rfl rfl (OpG.plain rfl (by first | exact OpP.load1 (Val.of rfl) (fun _ => .own Take.head rfl) inferInstance | exact OpP.load1 (Val.of rfl) (fun _ => .own (Take.cons Take.head) rfl) inferInstance | exact OpP.load1 (Val.of rfl) (fun _ => .own (Take.cons (Take.cons Take.head)) rfl) inferInstance | exact OpP.load1 (Val.of rfl) (fun _ => .own (Take.cons (Take.cons (Take.cons Take.head))) rfl) inferInstance | exact OpP.load1 (Val.of rfl) (fun _ => .own (Take.cons (Take.cons (Take.cons (Take.cons Take.head)))) rfl) inferInstance | exact OpP.load1 (Val.of rfl) (fun _ => .own (Take.app Take.head) rfl) inferInstance | exact OpP.load1 (Val.of rfl) (fun _ => .own (Take.app (Take.cons Take.head)) rfl) inferInstance | exact OpP.load1 (Val.of rfl) (fun _ => .own (Take.cons (Take.app Take.head)) rfl) inferInstance | exact OpP.load1 (Val.of rfl) (fun _ => .own (Take.app (Take.cons (Take.cons Take.head))) rfl) inferInstance | exact OpP.load1 (Val.of rfl) (fun _ => .own (Take.cons (Take.app (Take.cons Take.head))) rfl) inferInstance | exact OpP.load1 (Val.of rfl) (fun _ => .own (Take.cons (Take.cons (Take.app Take.head))) rfl) inferInstance | exact OpP.load1 (Val.of rfl) (fun _ => .own (Take.app (Take.cons (Take.cons (Take.cons Take.head)))) rfl) inferInstance | exact OpP.load1 (Val.of rfl) (fun _ => .own (Take.cons (Take.app (Take.cons (Take.cons Take.head)))) rfl) inferInstance | exact OpP.load1 (Val.of rfl) (fun _ => .own (Take.cons (Take.cons (Take.app (Take.cons Take.head)))) rfl) inferInstance | exact OpP.load1 (Val.of rfl) (fun _ => .own (Take.cons (Take.cons (Take.cons (Take.app Take.head)))) rfl) inferInstance | exact OpP.load1 (Val.of rfl) (fun _ => .inl (by assumption)) inferInstance)) ?_
  refine RunL.pure rfl rfl (OpG.plain rfl (OpP.bin (Val.of rfl) (Val.of rfl) rfl)) ?_
  refine RunL.pure rfl rfl (OpG.plain rfl (OpP.move (Val.of rfl))) ?_
  refine RunL.pure rfl rfl (OpG.onT rfl rfl rfl (OpP.fieldAddr (Val.of rfl) inferInstance)) ?_
  refine RunL.pure rfl rfl (OpG.onT rfl rfl rfl (by first | exact OpP.load1 (Val.lz rfl) (fun _ => .own Take.head rfl) inferInstance | exact OpP.load1 (Val.lz rfl) (fun _ => .own (Take.cons Take.head) rfl) inferInstance | exact OpP.load1 (Val.lz rfl) (fun _ => .own (Take.cons (Take.cons Take.head)) rfl) inferInstance | exact OpP.load1 (Val.lz rfl) (fun _ => .own (Take.cons (Take.cons (Take.cons Take.head))) rfl) inferInstance | exact OpP.load1 (Val.lz rfl) (fun _ => .own (Take.cons (Take.cons (Take.cons (Take.cons Take.head)))) rfl) inferInstance | exact OpP.load1 (Val.lz rfl) (fun _ => .own (Take.app Take.head) rfl) inferInstance | exact OpP.load1 (Val.lz rfl) (fun _ => .own (Take.app (Take.cons Take.head)) rfl) inferInstance | exact OpP.load1 (Val.lz rfl) (fun _ => .own (Take.cons (Take.app Take.head)) rfl) inferInstance | exact OpP.load1 (Val.lz rfl) (fun _ => .own (Take.app (Take.cons (Take.cons Take.head))) rfl) inferInstance | exact OpP.load1 (Val.lz rfl) (fun _ => .own (Take.cons (Take.app (Take.cons Take.head))) rfl) inferInstance | exact OpP.load1 (Val.lz rfl) (fun _ => .own (Take.cons (Take.cons (Take.app Take.head))) rfl) inferInstance | exact OpP.load1 (Val.lz rfl) (fun _ => .own (Take.app (Take.cons (Take.cons (Take.cons Take.head)))) rfl) inferInstance | exact OpP.load1 (Val.lz rfl) (fun _ => .own (Take.cons (Take.app (Take.cons (Take.cons Take.head)))) rfl) inferInstance | exact OpP.load1 (Val.lz rfl) (fun _ => .own (Take.cons (Take.cons (Take.app (Take.cons Take.head)))) rfl) inferInstance | exact OpP.load1 (Val.lz rfl) (fun _ => .own (Take.cons (Take.cons (Take.cons (Take.app Take.head)))) rfl) inferInstance | exact OpP.load1 (Val.lz rfl) (fun _ => .inl (by assumption)) inferInstance)) ?_
  refine RunL.pure rfl rfl (OpG.onT rfl rfl rfl (OpP.not (Val.lz rfl))) ?_
  refine RunL.pure rfl rfl (OpG.plain rfl (OpP.pick_and rfl rfl rfl)) ?_
  refine RunL.pure rfl rfl (OpG.plain rfl (OpP.move (Val.of rfl))) ?_
  refine RunL.pure rfl rfl (OpG.onT rfl rfl rfl (OpP.fieldAddr (Val.of rfl) inferInstance)) ?_
  refine RunL.pure rfl rfl (OpG.onT rfl rfl rfl (by first | exact OpP.load1 (Val.lz rfl) (fun _ => .own Take.head rfl) inferInstance | exact OpP.load1 (Val.lz rfl) (fun _ => .own (Take.cons Take.head) rfl) inferInstance | exact OpP.load1 (Val.lz rfl) (fun _ => .own (Take.cons (Take.cons Take.head)) rfl) inferInstance | exact OpP.load1 (Val.lz rfl) (fun _ => .own (Take.cons (Take.cons (Take.cons Take.head))) rfl) inferInstance | exact OpP.load1 (Val.lz rfl) (fun _ => .own (Take.cons (Take.cons (Take.cons (Take.cons Take.head)))) rfl) inferInstance | exact OpP.load1 (Val.lz rfl) (fun _ => .own (Take.app Take.head) rfl) inferInstance | exact OpP.load1 (Val.lz rfl) (fun _ => .own (Take.app (Take.cons Take.head)) rfl) inferInstance | exact OpP.load1 (Val.lz rfl) (fun _ => .own (Take.cons (Take.app Take.head)) rfl) inferInstance | exact OpP.load1 (Val.lz rfl) (fun _ => .own (Take.app (Take.cons (Take.cons Take.head))) rfl) inferInstance | exact OpP.load1 (Val.lz rfl) (fun _ => .own (Take.cons (Take.app (Take.cons Take.head))) rfl) inferInstance | exact OpP.load1 (Val.lz rfl) (fun _ => .own (Take.cons (Take.cons (Take.app Take.head))) rfl) inferInstance | exact OpP.load1 (Val.lz rfl) (fun _ => .own (Take.app (Take.cons (Take.cons (Take.cons Take.head)))) rfl) inferInstance | exact OpP.load1 (Val.lz rfl) (fun _ => .own (Take.cons (Take.app (Take.cons (Take.cons Take.head)))) rfl) inferInstance | exact OpP.load1 (Val.lz rfl) (fun _ => .own (Take.cons (Take.cons (Take.app (Take.cons Take.head)))) rfl) inferInstance | exact OpP.load1 (Val.lz rfl) (fun _ => .own (Take.cons (Take.cons (Take.cons (Take.app Take.head)))) rfl) inferInstance | exact OpP.load1 (Val.lz rfl) (fun _ => .inl (by assumption)) inferInstance)) ?_
  refine RunL.pure rfl rfl (OpG.onT rfl rfl rfl (OpP.call (by kernel_rfl) (.cons (Val.lz rfl) .nil) (fun hA => by first | (have hct := field_Settable; exact hct) | exact field_Settable))) ?_
  refine RunL.pure rfl rfl (OpG.plain rfl (OpP.pick_and rfl rfl rfl)) ?_
  refine RunL.pure rfl rfl (OpG.plain rfl (OpP.move (Val.of rfl))) ?_
  refine RunL.pure rfl rfl (OpG.onT rfl rfl rfl (by first | exact OpP.loadW (Val.of rfl) Take.head rfl inferInstance | exact OpP.loadW (Val.of rfl) (Take.cons Take.head) rfl inferInstance | exact OpP.loadW (Val.of rfl) (Take.cons (Take.cons Take.head)) rfl inferInstance | exact OpP.loadW (Val.of rfl) (Take.cons (Take.cons (Take.cons Take.head))) rfl inferInstance | exact OpP.loadW (Val.of rfl) (Take.cons (Take.cons (Take.cons (Take.cons Take.head)))) rfl inferInstance | exact OpP.loadW (Val.of rfl) (Take.app Take.head) rfl inferInstance | exact OpP.loadW (Val.of rfl) (Take.app (Take.cons Take.head)) rfl inferInstance | exact OpP.loadW (Val.of rfl) (Take.cons (Take.app Take.head)) rfl inferInstance | exact OpP.loadW (Val.of rfl) (Take.app (Take.cons (Take.cons Take.head))) rfl inferInstance | exact OpP.loadW (Val.of rfl) (Take.cons (Take.app (Take.cons Take.head))) rfl inferInstance | exact OpP.loadW (Val.of rfl) (Take.cons (Take.cons (Take.app Take.head))) rfl inferInstance | exact OpP.loadW (Val.of rfl) (Take.app (Take.cons (Take.cons (Take.cons Take.head)))) rfl inferInstance | exact OpP.loadW (Val.of rfl) (Take.cons (Take.app (Take.cons (Take.cons Take.head)))) rfl inferInstance | exact OpP.loadW (Val.of rfl) (Take.cons (Take.cons (Take.app (Take.cons Take.head)))) rfl inferInstance | exact OpP.loadW (Val.of rfl) (Take.cons (Take.cons (Take.cons (Take.app Take.head)))) rfl inferInstance | exact OpP.loadO inferInstance (Val.of rfl) Take.head rfl | exact OpP.loadO inferInstance (Val.of rfl) (Take.cons Take.head) rfl | exact OpP.loadO inferInstance (Val.of rfl) (Take.cons (Take.cons Take.head)) rfl | exact OpP.loadO inferInstance (Val.of rfl) (Take.cons (Take.cons (Take.cons Take.head))) rfl | exact OpP.loadO inferInstance (Val.of rfl) (Take.cons (Take.cons (Take.cons (Take.cons Take.head)))) rfl | exact OpP.loadO inferInstance (Val.of rfl) (Take.app Take.head) rfl | exact OpP.loadO inferInstance (Val.of rfl) (Take.app (Take.cons Take.head)) rfl | exact OpP.loadO inferInstance (Val.of rfl) (Take.cons (Take.app Take.head)) rfl | exact OpP.loadO inferInstance (Val.of rfl) (Take.app (Take.cons (Take.cons Take.head))) rfl | exact OpP.loadO inferInstance (Val.of rfl) (Take.cons (Take.app (Take.cons Take.head))) rfl | exact OpP.loadO inferInstance (Val.of rfl) (Take.cons (Take.cons (Take.app Take.head))) rfl | exact OpP.loadO inferInstance (Val.of rfl) (Take.app (Take.cons (Take.cons (Take.cons Take.head)))) rfl | exact OpP.loadO inferInstance (Val.of rfl) (Take.cons (Take.app (Take.cons (Take.cons Take.head)))) rfl | exact OpP.loadO inferInstance (Val.of rfl) (Take.cons (Take.cons (Take.app (Take.cons Take.head)))) rfl | exact OpP.loadO inferInstance (Val.of rfl) (Take.cons (Take.cons (Take.cons (Take.app Take.head)))) rfl | exact OpP.loadN (Val.of rfl) (fun _ => ReadsAll.ghost (by assumption)) rfl inferInstance)) ?_
  refine RunL.pure rfl rfl (OpG.onT rfl rfl rfl (OpP.call (by kernel_rfl) (.cons (Val.lz rfl) .nil) (fun hA => by first | (have hct := oxm_Right ho; exact hct) | exact oxm_Right ho))) ?_
  refine RunL.pure rfl rfl (OpG.plain rfl (OpP.pick_and rfl rfl rfl)) ?_
  refine RunL.pure rfl rfl (OpG.plain rfl (OpP.assign (Val.of rfl))) ?_
  refine RunL.nil ?_
  refine RunQ.then_normal ?_
  refine Run.ret ?_
  refine RunQ.ret1 rfl rfl ?_
  rfl
def noOxm : OxmM := ⟨0, 0, false, 0, [], []⟩
theorem IsOxm.no {h : GH} : IsOxm h noOxm Sl.none Sl.none := ⟨IsBytes.nilb, IsBytes.nilb⟩
def actBare (o : OxmM) : Bool := oxmSame o noOxm
set_option maxRecDepth 100000 in
theorem action_bare {h : GH} {o : OxmM} {sv sm : Sl} (ho : IsOxm h o sv sm) : Ctr Tryd.prog 94 [oxmV o sv sm].toArray h [] fun r _ _ => r = .bool (actBare o) := by
  refine Ctr.of_run Tryd.func94 rfl rfl rfl fun w0 => ?_
  refine Run.seq ?_
  refine Run.region' ?_
  refine RunL.boxA rfl rfl fun b1 => ?_
  refine RunL.pure rfl rfl (OpG.plain rfl (OpP.assign (Val.of rfl))) ?_
  refine RunL.nil ?_
  refine RunQ.then_normal ?_
  refine Run.seq ?_
  refine Run.region' ?_
  refine RunL.pure rfl rfl (OpG.plain rfl (by first | exact OpP.loadW (Val.of rfl) Take.head rfl inferInstance | exact OpP.loadW (Val.of rfl) (Take.cons Take.head) rfl inferInstance | exact OpP.loadW (Val.of rfl) (Take.cons (Take.cons Take.head)) rfl inferInstance | exact OpP.loadW (Val.of rfl) (Take.cons (Take.cons (Take.cons Take.head))) rfl inferInstance | exact OpP.loadW (Val.of rfl) (Take.cons (Take.cons (Take.cons (Take.cons Take.head)))) rfl inferInstance | exact OpP.loadW (Val.of rfl) (Take.app Take.head) rfl inferInstance | exact OpP.loadW (Val.of rfl) (Take.app (Take.cons Take.head)) rfl inferInstance | exact OpP.loadW (Val.of rfl) (Take.cons (Take.app Take.head)) rfl inferInstance | exact OpP.loadW (Val.of rfl) (Take.app (Take.cons (Take.cons Take.head))) rfl inferInstance | exact OpP.loadW (Val.of rfl) (Take.cons (Take.app (Take.cons Take.head))) rfl inferInstance | exact OpP.loadW (Val.of rfl) (Take.cons (Take.cons (Take.app Take.head))) rfl inferInstance | exact OpP.loadW (Val.of rfl) (Take.app (Take.cons (Take.cons (Take.cons Take.head)))) rfl inferInstance | exact OpP.loadW (Val.of rfl) (Take.cons (Take.app (Take.cons (Take.cons Take.head)))) rfl inferInstance | exact OpP.loadW (Val.of rfl) (Take.cons (Take.cons (Take.app (Take.cons Take.head)))) rfl inferInstance | exact OpP.loadW (Val.of rfl) (Take.cons (Take.cons (Take.cons (Take.app Take.head)))) rfl inferInstance | exact OpP.loadO inferInstance (Val.of rfl) Take.head rfl | exact OpP.loadO inferInstance (Val.of rfl) (Take.cons Take.head) rfl | exact OpP.loadO inferInstance (Val.of rfl) (Take.cons (Take.cons Take.head)) rfl | exact OpP.loadO inferInstance (Val.of rfl) (Take.cons (Take.cons (Take.cons Take.head))) rfl | exact OpP.loadO inferInstance (Val.of rfl) (Take.cons (Take.cons (Take.cons (Take.cons Take.head)))) rfl | exact OpP.loadO inferInstance (Val.of rfl) (Take.app Take.head) rfl | exact OpP.loadO inferInstance (Val.of rfl) (Take.app (Take.cons Take.head)) rfl | exact OpP.loadO inferInstance (Val.of rfl) (Take.cons (Take.app Take.head)) rfl | exact OpP.loadO inferInstance (Val.of rfl) (Take.app (Take.cons (Take.cons Take.head))) rfl | exact OpP.loadO inferInstance (Val.of rfl) (Take.cons (Take.app (Take.cons Take.head))) rfl | exact OpP.loadO inferInstance (Val.of rfl) (Take.cons (Take.cons (Take.app Take.head))) rfl | exact OpP.loadO inferInstance (Val.of rfl) (Take.app (Take.cons (Take.cons (Take.cons Take.head)))) rfl | exact OpP.loadO inferInstance (Val.of rfl) (Take.cons (Take.app (Take.cons (Take.cons Take.head)))) rfl | exact OpP.loadO inferInstance (Val.of rfl) (Take.cons (Take.cons (Take.app (Take.cons Take.head)))) rfl | exact OpP.loadO inferInstance (Val.of rfl) (Take.cons (Take.cons (Take.cons (Take.app Take.head)))) rfl | exact OpP.loadN (Val.of rfl) (fun _ => ReadsAll.ghost (by assumption)) rfl inferInstance)) ?_
  refine RunL.pure rfl rfl (OpG.plain rfl (OpP.build inferInstance rfl rfl)) ?_
  refine RunL.pure rfl rfl (OpG.plain rfl (OpP.call (by kernel_rfl) (.cons (Val.of rfl) (.cons (Val.of rfl) .nil)) (fun hA => by first | (have hct := oxm_Same (b := noOxm) (sv1 := Sl.none) (sm1 := Sl.none) ho IsOxm.no; exact hct) | exact oxm_Same (b := noOxm) (sv1 := Sl.none) (sm1 := Sl.none) ho IsOxm.no))) ?_
  refine RunL.pure rfl rfl (OpG.plain rfl (OpP.assign (Val.of rfl))) ?_
  refine RunL.nil ?_
  refine RunQ.then_normal ?_
  refine Run.ret ?_
  refine RunQ.ret1 rfl rfl ?_
  rfl
def actRow (t : Int) : Option (List Int) :=
  if t == 0 then some [4, 2, -6] else if t == 22 || (t == 21 || t == 65535) then some [4] else if t == 15 || t == 23 then some [1, -3]
  else if t == 17 || (t == 19 || t == 26) then some [2, -2] else if t == 20 then some [2, -2] else if t == 11 || (t == 12 || t == 16) then some [-4] else if t == 18 || (t == 24 || t == 27) then some [-4] else none
def RowRes (p : Option (List Int)) (r : Value) (h : GH) : Prop := ∃ s : Sl, r = .tuple #[s.v, .bool p.isSome] ∧ IsInts h s (p.getD [])
theorem RowRes.mk {p : Option (List Int)} {h : GH} {l : List Int} {s : Sl} (hp : p = some l) (hs : IsSl h 1 s (l.map i64v)) (hl : l.length ≤ 100) : RowRes p (.tuple #[s.v, .bool true]) h := by
  subst hp; exact ⟨s, rfl, hs, Nat.le_trans hl (by decide)⟩
set_option maxHeartbeats 1000000 in
set_option maxRecDepth 100000 in
theorem action_rows {h : GH} {n : Int} : Ctr Tryd.prog 93 [i64v n].toArray h [] fun r h' N => N = [] ∧ RowRes (actRow n) r h' := by
  apply Ctr.forget
  refine Ctr.of_run Tryd.func93 rfl rfl rfl fun w0 => ?_
  refine Run.seq ?_
  refine Run.region' ?_
  refine RunL.pure rfl rfl (OpG.plain rfl (OpP.assign (Val.of rfl))) ?_
  refine RunL.pure rfl rfl (OpG.plain rfl (OpP.assign (Val.of rfl))) ?_
  refine RunL.nil ?_
  refine RunQ.then_normal ?_
  refine Run.seq ?_
  refine Run.seq ?_
  refine Run.region' ?_
  refine RunL.pure rfl rfl (OpG.plain rfl (OpP.move (Val.of rfl))) ?_
  refine RunL.nil ?_
  refine RunQ.then_normal ?_
  refine Run.block ?_
  refine Run.seq ?_
  refine Run.block ?_
  refine Run.block ?_
  refine Run.seq ?_
  refine Run.block ?_
  refine Run.block ?_
  refine Run.seq ?_
  refine Run.block ?_
  refine Run.seq ?_
  refine Run.block ?_
  refine Run.seq ?_
  refine Run.block ?_
  refine Run.seq ?_
  refine Run.seq ?_
  refine Run.seq ?_
  refine Run.chain (Chain.last rfl rfl rfl rfl rfl) ?_
  refine RunQ.then_normal ?_
  refine Run.cond rfl (fun hc0 => ?_) (fun hc0 => ?_)
  · refine Run.exit ?_
    refine RunQ.then_exit ?_
    refine RunQ.then_exit ?_
    refine RunQ.block_exit ?_
    refine RunQ.then_normal ?_
    refine Run.seq ?_
    refine Run.seq ?_
    refine Run.region' ?_
    refine RunL.buildSlice inferInstance inferInstance inferInstance rfl rfl rfl rfl rfl rfl fun b1 => ?_
    refine RunL.pure rfl rfl (OpG.plain rfl (OpP.assign (Val.of rfl))) ?_
    refine RunL.pure rfl rfl (OpG.plain rfl (OpP.assign (Val.of rfl))) ?_
    refine RunL.nil ?_
    refine RunQ.then_normal ?_
    refine Run.ret ?_
    refine RunQ.then_ret ?_
    refine RunQ.block_ret ?_
    refine RunQ.then_ret ?_
    refine RunQ.block_ret ?_
    refine RunQ.then_ret ?_
    refine RunQ.block_ret ?_
    refine RunQ.block_ret ?_
    refine RunQ.then_ret ?_
    refine RunQ.block_ret ?_
    refine RunQ.block_ret ?_
    refine RunQ.then_ret ?_
    refine RunQ.block_ret ?_
    refine RunQ.then_ret ?_
    refine RunQ.freezeB (size := 1) Take.head rfl (by simp [maxLen]) fun h1 _ hs => RunQ.ret2 rfl rfl rfl (RowRes.mk (l := [4, 2, -6]) (by simp [actRow, *]) hs (by simp))
  · refine Run.skip ?_
    refine RunQ.then_normal ?_
    refine Run.seq ?_
    refine Run.seq ?_
    refine Run.chain (Chain.step rfl rfl rfl rfl rfl rfl (Chain.step rfl rfl rfl rfl rfl rfl (Chain.last rfl rfl rfl rfl rfl))) ?_
    refine RunQ.then_normal ?_
    refine Run.cond rfl (fun hc1 => ?_) (fun hc1 => ?_)
    · refine Run.exit ?_
      refine RunQ.then_exit ?_
      refine RunQ.then_exit ?_
      refine RunQ.block_exit_other rfl ?_
      refine RunQ.then_exit ?_
      refine RunQ.block_exit ?_
      refine RunQ.then_normal ?_
      refine Run.seq ?_
      refine Run.seq ?_
      refine Run.region' ?_
      refine RunL.buildSlice inferInstance inferInstance inferInstance rfl rfl rfl rfl rfl rfl fun b2 => ?_
      refine RunL.pure rfl rfl (OpG.plain rfl (OpP.assign (Val.of rfl))) ?_
      refine RunL.pure rfl rfl (OpG.plain rfl (OpP.assign (Val.of rfl))) ?_
      refine RunL.nil ?_
      refine RunQ.then_normal ?_
      refine Run.ret ?_
      refine RunQ.then_ret ?_
      refine RunQ.block_ret ?_
      refine RunQ.then_ret ?_
      refine RunQ.block_ret ?_
      refine RunQ.block_ret ?_
      refine RunQ.then_ret ?_
      refine RunQ.block_ret ?_
      refine RunQ.block_ret ?_
      refine RunQ.then_ret ?_
      refine RunQ.block_ret ?_
      refine RunQ.then_ret ?_
      refine RunQ.freezeB (size := 1) Take.head rfl (by simp [maxLen]) fun h1 _ hs => RunQ.ret2 rfl rfl rfl (RowRes.mk (l := [4]) (by simp [actRow, *]) hs (by simp))
    · refine Run.skip ?_
      refine RunQ.then_normal ?_
      refine Run.seq ?_
      refine Run.seq ?_
      refine Run.chain (Chain.step rfl rfl rfl rfl rfl rfl (Chain.last rfl rfl rfl rfl rfl)) ?_
      refine RunQ.then_normal ?_
      refine Run.cond rfl (fun hc2 => ?_) (fun hc2 => ?_)
      · refine Run.exit ?_
        refine RunQ.then_exit ?_
        refine RunQ.then_exit ?_
        refine RunQ.block_exit_other rfl ?_
        refine RunQ.then_exit ?_
        refine RunQ.block_exit_other rfl ?_
        refine RunQ.then_exit ?_
        refine RunQ.block_exit ?_
        refine RunQ.then_normal ?_
        refine Run.seq ?_
        refine Run.seq ?_
        refine Run.region' ?_
        refine RunL.buildSlice inferInstance inferInstance inferInstance rfl rfl rfl rfl rfl rfl fun b3 => ?_
        refine RunL.pure rfl rfl (OpG.plain rfl (OpP.assign (Val.of rfl))) ?_
        refine RunL.pure rfl rfl (OpG.plain rfl (OpP.assign (Val.of rfl))) ?_
        refine RunL.nil ?_
        refine RunQ.then_normal ?_
        refine Run.ret ?_
        refine RunQ.then_ret ?_
        refine RunQ.block_ret ?_
        refine RunQ.block_ret ?_
        refine RunQ.then_ret ?_
        refine RunQ.block_ret ?_
        refine RunQ.block_ret ?_
        refine RunQ.then_ret ?_
        refine RunQ.block_ret ?_
        refine RunQ.then_ret ?_
        refine RunQ.freezeB (size := 1) Take.head rfl (by simp [maxLen]) fun h1 _ hs => RunQ.ret2 rfl rfl rfl (RowRes.mk (l := [1, -3]) (by simp [actRow, *]) hs (by simp))
      · refine Run.skip ?_
        refine RunQ.then_normal ?_
        refine Run.seq ?_
        refine Run.seq ?_
        refine Run.chain (Chain.step rfl rfl rfl rfl rfl rfl (Chain.step rfl rfl rfl rfl rfl rfl (Chain.last rfl rfl rfl rfl rfl))) ?_
        refine RunQ.then_normal ?_
        refine Run.cond rfl (fun hc3 => ?_) (fun hc3 => ?_)
        · refine Run.exit ?_
          refine RunQ.then_exit ?_
          refine RunQ.then_exit ?_
          refine RunQ.block_exit_other rfl ?_
          refine RunQ.then_exit ?_
          refine RunQ.block_exit_other rfl ?_
          refine RunQ.then_exit ?_
          refine RunQ.block_exit_other rfl ?_
          refine RunQ.then_exit ?_
          refine RunQ.block_exit ?_
          refine RunQ.block_normal ?_
          refine RunQ.then_normal ?_
          refine Run.seq ?_
          refine Run.seq ?_
          refine Run.region' ?_
          refine RunL.buildSlice inferInstance inferInstance inferInstance rfl rfl rfl rfl rfl rfl fun b4 => ?_
          refine RunL.pure rfl rfl (OpG.plain rfl (OpP.assign (Val.of rfl))) ?_
          refine RunL.pure rfl rfl (OpG.plain rfl (OpP.assign (Val.of rfl))) ?_
          refine RunL.nil ?_
          refine RunQ.then_normal ?_
          refine Run.ret ?_
          refine RunQ.then_ret ?_
          refine RunQ.block_ret ?_
          refine RunQ.block_ret ?_
          refine RunQ.then_ret ?_
          refine RunQ.block_ret ?_
          refine RunQ.then_ret ?_
          refine RunQ.freezeB (size := 1) Take.head rfl (by simp [maxLen]) fun h1 _ hs => RunQ.ret2 rfl rfl rfl (RowRes.mk (l := [2, -2]) (by simp [actRow, *]) hs (by simp))
        · refine Run.skip ?_
          refine RunQ.then_normal ?_
          refine Run.seq ?_
          refine Run.seq ?_
          refine Run.chain (Chain.last rfl rfl rfl rfl rfl) ?_
          refine RunQ.then_normal ?_
          refine Run.cond rfl (fun hc4 => ?_) (fun hc4 => ?_)
          · refine Run.exit ?_
            refine RunQ.then_exit ?_
            refine RunQ.then_exit ?_
            refine RunQ.block_exit_other rfl ?_
            refine RunQ.then_exit ?_
            refine RunQ.block_exit_other rfl ?_
            refine RunQ.then_exit ?_
            refine RunQ.block_exit_other rfl ?_
            refine RunQ.then_exit ?_
            refine RunQ.block_exit_other rfl ?_
            refine RunQ.block_exit ?_
            refine RunQ.then_normal ?_
            refine Run.seq ?_
            refine Run.seq ?_
            refine Run.region' ?_
            refine RunL.buildSlice inferInstance inferInstance inferInstance rfl rfl rfl rfl rfl rfl fun b5 => ?_
            refine RunL.pure rfl rfl (OpG.plain rfl (OpP.assign (Val.of rfl))) ?_
            refine RunL.pure rfl rfl (OpG.plain rfl (OpP.assign (Val.of rfl))) ?_
            refine RunL.nil ?_
            refine RunQ.then_normal ?_
            refine Run.ret ?_
            refine RunQ.then_ret ?_
            refine RunQ.block_ret ?_
            refine RunQ.block_ret ?_
            refine RunQ.then_ret ?_
            refine RunQ.block_ret ?_
            refine RunQ.then_ret ?_
            refine RunQ.freezeB (size := 1) Take.head rfl (by simp [maxLen]) fun h1 _ hs => RunQ.ret2 rfl rfl rfl (RowRes.mk (l := [2, -2]) (by simp [actRow, *]) hs (by simp))
          · refine Run.skip ?_
            refine RunQ.then_normal ?_
            refine Run.seq ?_
            refine Run.seq ?_
            refine Run.chain (Chain.step rfl rfl rfl rfl rfl rfl (Chain.step rfl rfl rfl rfl rfl rfl (Chain.last rfl rfl rfl rfl rfl))) ?_
            refine RunQ.then_normal ?_
            refine Run.cond rfl (fun hc5 => ?_) (fun hc5 => ?_)
            · refine Run.exit ?_
              refine RunQ.then_exit ?_
              refine RunQ.then_exit ?_
              refine RunQ.block_exit_other rfl ?_
              refine RunQ.then_exit ?_
              refine RunQ.block_exit_other rfl ?_
              refine RunQ.then_exit ?_
              refine RunQ.block_exit_other rfl ?_
              refine RunQ.then_exit ?_
              refine RunQ.block_exit_other rfl ?_
              refine RunQ.block_exit_other rfl ?_
              refine RunQ.then_exit ?_
              refine RunQ.block_exit ?_
              refine RunQ.block_normal ?_
              refine RunQ.then_normal ?_
              refine Run.seq ?_
              refine Run.seq ?_
              refine Run.region' ?_
              refine RunL.buildSlice inferInstance inferInstance inferInstance rfl rfl rfl rfl rfl rfl fun b6 => ?_
              refine RunL.pure rfl rfl (OpG.plain rfl (OpP.assign (Val.of rfl))) ?_
              refine RunL.pure rfl rfl (OpG.plain rfl (OpP.assign (Val.of rfl))) ?_
              refine RunL.nil ?_
              refine RunQ.then_normal ?_
              refine Run.ret ?_
              refine RunQ.then_ret ?_
              refine RunQ.block_ret ?_
              refine RunQ.then_ret ?_
              refine RunQ.freezeB (size := 1) Take.head rfl (by simp [maxLen]) fun h1 _ hs => RunQ.ret2 rfl rfl rfl (RowRes.mk (l := [-4]) (by simp [actRow, *]) hs (by simp))
            · refine Run.skip ?_
              refine RunQ.then_normal ?_
              refine Run.seq ?_
              refine Run.chain (Chain.step rfl rfl rfl rfl rfl rfl (Chain.step rfl rfl rfl rfl rfl rfl (Chain.last rfl rfl rfl rfl rfl))) ?_
              refine RunQ.then_normal ?_
              refine Run.cond rfl (fun hc6 => ?_) (fun hc6 => ?_)
              · refine Run.exit ?_
                refine RunQ.then_exit ?_
                refine RunQ.block_exit_other rfl ?_
                refine RunQ.then_exit ?_
                refine RunQ.block_exit_other rfl ?_
                refine RunQ.then_exit ?_
                refine RunQ.block_exit_other rfl ?_
                refine RunQ.then_exit ?_
                refine RunQ.block_exit_other rfl ?_
                refine RunQ.block_exit_other rfl ?_
                refine RunQ.then_exit ?_
                refine RunQ.block_exit_other rfl ?_
                refine RunQ.block_exit ?_
                refine RunQ.then_normal ?_
                refine Run.seq ?_
                refine Run.seq ?_
                refine Run.region' ?_
                refine RunL.buildSlice inferInstance inferInstance inferInstance rfl rfl rfl rfl rfl rfl fun b7 => ?_
                refine RunL.pure rfl rfl (OpG.plain rfl (OpP.assign (Val.of rfl))) ?_
                refine RunL.pure rfl rfl (OpG.plain rfl (OpP.assign (Val.of rfl))) ?_
                refine RunL.nil ?_
                refine RunQ.then_normal ?_
                refine Run.ret ?_
                refine RunQ.then_ret ?_
                refine RunQ.block_ret ?_
                refine RunQ.then_ret ?_
                refine RunQ.freezeB (size := 1) Take.head rfl (by simp [maxLen]) fun h1 _ hs => RunQ.ret2 rfl rfl rfl (RowRes.mk (l := [-4]) (by simp [actRow, *]) hs (by simp))
              · refine Run.skip ?_
                refine RunQ.then_normal ?_
                refine Run.exit ?_
                refine RunQ.block_exit_other rfl ?_
                refine RunQ.then_exit ?_
                refine RunQ.block_exit_other rfl ?_
                refine RunQ.then_exit ?_
                refine RunQ.block_exit_other rfl ?_
                refine RunQ.then_exit ?_
                refine RunQ.block_exit_other rfl ?_
                refine RunQ.block_exit_other rfl ?_
                refine RunQ.then_exit ?_
                refine RunQ.block_exit_other rfl ?_
                refine RunQ.block_exit_other rfl ?_
                refine RunQ.then_exit ?_
                refine RunQ.block_exit ?_
                refine RunQ.then_normal ?_
                refine Run.seq ?_
                refine Run.region' ?_
                refine RunL.pure rfl rfl (OpG.plain rfl (OpP.assign (Val.of rfl))) ?_
                refine RunL.pure rfl rfl (OpG.plain rfl (OpP.assign (Val.of rfl))) ?_
                refine RunL.nil ?_
                refine RunQ.then_normal ?_
                refine Run.ret ?_
                refine RunQ.ret2 rfl rfl rfl ?_
                exact ⟨Sl.none, by simp [actRow, *], by simp [actRow, *]; exact ⟨.nilSl, by simp⟩⟩
def actAsked (t : Int) (n : UInt64) : Int :=
  if (t == 0 && n == 0) then 517 else if (t == 22 && decide ((n.toNat : Int) > 4294967040)) then 522 else if (t == 17 && n != 33024 && n != 34984) then 518
  else if (t == 19 && n != 34887 && n != 34888) then 518 else if (t == 26 && n != 35047) then 518 else 0
set_option maxHeartbeats 1000000 in
set_option maxRecDepth 100000 in
theorem action_asked {h : GH} {t : Int} {n : UInt64} : Ctr Tryd.prog 95 [i64v t, u64v n].toArray h [] fun r _ _ => r = i64v (actAsked t n) := by
  refine Ctr.of_run Tryd.func95 rfl rfl rfl fun w0 => ?_
  refine Run.seq ?_
  refine Run.region' ?_
  refine RunL.pure rfl rfl (OpG.plain rfl (OpP.assign (Val.of rfl))) ?_
  refine RunL.nil ?_
  refine RunQ.then_normal ?_
  refine Run.seq ?_
  refine Run.block ?_
  refine Run.seq ?_
  refine Run.region' ?_
  refine RunL.pure rfl rfl (OpG.plain rfl (OpP.move (Val.of rfl))) ?_
  refine RunL.pure rfl rfl (OpG.plain rfl (OpP.bin (Val.of rfl) (Val.of rfl) rfl)) ?_
  refine RunL.pure rfl rfl (OpG.plain rfl (OpP.move (Val.of rfl))) ?_
  refine RunL.pure rfl rfl (OpG.onT rfl rfl rfl (OpP.move (Val.of rfl))) ?_
  refine RunL.pure rfl rfl (OpG.onT rfl rfl rfl (by first | exact OpP.eql_u64 (Val.lz rfl) (Val.c64 (Val.of rfl) (by decide)) | exact OpP.bin (Val.lz rfl) (Val.of rfl) rfl)) ?_
  refine RunL.pure rfl rfl (OpG.plain rfl (OpP.pick_and rfl rfl rfl)) ?_
  refine RunL.pure rfl rfl (OpG.plain rfl (OpP.assign (Val.of rfl))) ?_
  refine RunL.nil ?_
  refine RunQ.then_normal ?_
  refine Run.cond rfl (fun hc0 => ?_) (fun hc0 => ?_)
  · have h0 : (t == 0 && n == 0) = true := hc0
    refine Run.seq ?_
    refine Run.region' ?_
    refine RunL.pure rfl rfl (OpG.plain rfl (OpP.assign (Val.of rfl))) ?_
    refine RunL.nil ?_
    refine RunQ.then_normal ?_
    refine Run.ret ?_
    refine RunQ.block_ret ?_
    refine RunQ.then_ret ?_
    refine RunQ.ret1 rfl rfl ?_
    unfold actAsked; rw [h0]; rfl
  · have h0 : (t == 0 && n == 0) = false := hc0
    refine Run.seq ?_
    refine Run.region' ?_
    refine RunL.pure rfl rfl (OpG.plain rfl (OpP.move (Val.of rfl))) ?_
    refine RunL.pure rfl rfl (OpG.plain rfl (OpP.bin (Val.of rfl) (Val.of rfl) rfl)) ?_
    refine RunL.pure rfl rfl (OpG.plain rfl (OpP.move (Val.of rfl))) ?_
    refine RunL.pure rfl rfl (OpG.onT rfl rfl rfl (OpP.move (Val.of rfl))) ?_
    refine RunL.pure rfl rfl (OpG.onT rfl rfl rfl (OpP.bin (Val.lz rfl) (Val.of rfl) rfl)) ?_
    refine RunL.pure rfl rfl (OpG.plain rfl (OpP.pick_and rfl rfl rfl)) ?_
    refine RunL.pure rfl rfl (OpG.plain rfl (OpP.assign (Val.of rfl))) ?_
    refine RunL.nil ?_
    refine RunQ.then_normal ?_
    refine Run.cond rfl (fun hc1 => ?_) (fun hc1 => ?_)
    · have h1 : (t == 22 && decide ((n.toNat : Int) > 4294967040)) = true := hc1
      refine Run.seq ?_
      refine Run.region' ?_
      refine RunL.pure rfl rfl (OpG.plain rfl (OpP.assign (Val.of rfl))) ?_
      refine RunL.nil ?_
      refine RunQ.then_normal ?_
      refine Run.ret ?_
      refine RunQ.block_ret ?_
      refine RunQ.then_ret ?_
      refine RunQ.ret1 rfl rfl ?_
      unfold actAsked; rw [h0, h1]; rfl
    · have h1 : (t == 22 && decide ((n.toNat : Int) > 4294967040)) = false := hc1
      refine Run.seq ?_
      refine Run.region' ?_
      refine RunL.pure rfl rfl (OpG.plain rfl (OpP.move (Val.of rfl))) ?_
      refine RunL.pure rfl rfl (OpG.plain rfl (OpP.bin (Val.of rfl) (Val.of rfl) rfl)) ?_
      refine RunL.pure rfl rfl (OpG.plain rfl (OpP.move (Val.of rfl))) ?_
      refine RunL.pure rfl rfl (OpG.onT rfl rfl rfl (OpP.move (Val.of rfl))) ?_
      refine RunL.pure rfl rfl (OpG.onT rfl rfl rfl (by first | exact OpP.neq_u64 (Val.lz rfl) (Val.c64 (Val.of rfl) (by decide)) | exact OpP.bin (Val.lz rfl) (Val.of rfl) rfl)) ?_
      refine RunL.pure rfl rfl (OpG.plain rfl (OpP.pick_and rfl rfl rfl)) ?_
      refine RunL.pure rfl rfl (OpG.plain rfl (OpP.move (Val.of rfl))) ?_
      refine RunL.pure rfl rfl (OpG.onT rfl rfl rfl (OpP.move (Val.of rfl))) ?_
      refine RunL.pure rfl rfl (OpG.onT rfl rfl rfl (by first | exact OpP.neq_u64 (Val.lz rfl) (Val.c64 (Val.of rfl) (by decide)) | exact OpP.bin (Val.lz rfl) (Val.of rfl) rfl)) ?_
      refine RunL.pure rfl rfl (OpG.plain rfl (OpP.pick_and rfl rfl rfl)) ?_
      refine RunL.pure rfl rfl (OpG.plain rfl (OpP.assign (Val.of rfl))) ?_
      refine RunL.nil ?_
      refine RunQ.then_normal ?_
      refine Run.cond rfl (fun hc2 => ?_) (fun hc2 => ?_)
      · have h2 : (t == 17 && n != 33024 && n != 34984) = true := hc2
        refine Run.seq ?_
        refine Run.region' ?_
        refine RunL.pure rfl rfl (OpG.plain rfl (OpP.assign (Val.of rfl))) ?_
        refine RunL.nil ?_
        refine RunQ.then_normal ?_
        refine Run.ret ?_
        refine RunQ.block_ret ?_
        refine RunQ.then_ret ?_
        refine RunQ.ret1 rfl rfl ?_
        unfold actAsked; rw [h0, h1, h2]; rfl
      · have h2 : (t == 17 && n != 33024 && n != 34984) = false := hc2
        refine Run.seq ?_
        refine Run.region' ?_
        refine RunL.pure rfl rfl (OpG.plain rfl (OpP.move (Val.of rfl))) ?_
        refine RunL.pure rfl rfl (OpG.plain rfl (OpP.bin (Val.of rfl) (Val.of rfl) rfl)) ?_
        refine RunL.pure rfl rfl (OpG.plain rfl (OpP.move (Val.of rfl))) ?_
        refine RunL.pure rfl rfl (OpG.onT rfl rfl rfl (OpP.move (Val.of rfl))) ?_
        refine RunL.pure rfl rfl (OpG.onT rfl rfl rfl (by first | exact OpP.neq_u64 (Val.lz rfl) (Val.c64 (Val.of rfl) (by decide)) | exact OpP.bin (Val.lz rfl) (Val.of rfl) rfl)) ?_
        refine RunL.pure rfl rfl (OpG.plain rfl (OpP.pick_and rfl rfl rfl)) ?_
        refine RunL.pure rfl rfl (OpG.plain rfl (OpP.move (Val.of rfl))) ?_
        refine RunL.pure rfl rfl (OpG.onT rfl rfl rfl (OpP.move (Val.of rfl))) ?_
        refine RunL.pure rfl rfl (OpG.onT rfl rfl rfl (by first | exact OpP.neq_u64 (Val.lz rfl) (Val.c64 (Val.of rfl) (by decide)) | exact OpP.bin (Val.lz rfl) (Val.of rfl) rfl)) ?_
        refine RunL.pure rfl rfl (OpG.plain rfl (OpP.pick_and rfl rfl rfl)) ?_
        refine RunL.pure rfl rfl (OpG.plain rfl (OpP.assign (Val.of rfl))) ?_
        refine RunL.nil ?_
        refine RunQ.then_normal ?_
        refine Run.cond rfl (fun hc3 => ?_) (fun hc3 => ?_)
        · have h3 : (t == 19 && n != 34887 && n != 34888) = true := hc3
          refine Run.seq ?_
          refine Run.region' ?_
          refine RunL.pure rfl rfl (OpG.plain rfl (OpP.assign (Val.of rfl))) ?_
          refine RunL.nil ?_
          refine RunQ.then_normal ?_
          refine Run.ret ?_
          refine RunQ.block_ret ?_
          refine RunQ.then_ret ?_
          refine RunQ.ret1 rfl rfl ?_
          unfold actAsked; rw [h0, h1, h2, h3]; rfl
        · have h3 : (t == 19 && n != 34887 && n != 34888) = false := hc3
          refine Run.seq ?_
          refine Run.region' ?_
          refine RunL.pure rfl rfl (OpG.plain rfl (OpP.move (Val.of rfl))) ?_
          refine RunL.pure rfl rfl (OpG.plain rfl (OpP.bin (Val.of rfl) (Val.of rfl) rfl)) ?_
          refine RunL.pure rfl rfl (OpG.plain rfl (OpP.move (Val.of rfl))) ?_
          refine RunL.pure rfl rfl (OpG.onT rfl rfl rfl (OpP.move (Val.of rfl))) ?_
          refine RunL.pure rfl rfl (OpG.onT rfl rfl rfl (by first | exact OpP.neq_u64 (Val.lz rfl) (Val.c64 (Val.of rfl) (by decide)) | exact OpP.bin (Val.lz rfl) (Val.of rfl) rfl)) ?_
          refine RunL.pure rfl rfl (OpG.plain rfl (OpP.pick_and rfl rfl rfl)) ?_
          refine RunL.pure rfl rfl (OpG.plain rfl (OpP.assign (Val.of rfl))) ?_
          refine RunL.nil ?_
          refine RunQ.then_normal ?_
          refine Run.cond rfl (fun hc4 => ?_) (fun hc4 => ?_)
          · have h4 : (t == 26 && n != 35047) = true := hc4
            refine Run.seq ?_
            refine Run.region' ?_
            refine RunL.pure rfl rfl (OpG.plain rfl (OpP.assign (Val.of rfl))) ?_
            refine RunL.nil ?_
            refine RunQ.then_normal ?_
            refine Run.ret ?_
            refine RunQ.block_ret ?_
            refine RunQ.then_ret ?_
            refine RunQ.ret1 rfl rfl ?_
            unfold actAsked; rw [h0, h1, h2, h3, h4]; rfl
          · have h4 : (t == 26 && n != 35047) = false := hc4
            refine Run.skip ?_
            refine RunQ.block_normal ?_
            refine RunQ.then_normal ?_
            refine Run.seq ?_
            refine Run.region' ?_
            refine RunL.pure rfl rfl (OpG.plain rfl (OpP.assign (Val.of rfl))) ?_
            refine RunL.nil ?_
            refine RunQ.then_normal ?_
            refine Run.ret ?_
            refine RunQ.ret1 rfl rfl ?_
            unfold actAsked; rw [h0, h1, h2, h3, h4]; rfl
end Go.Proofs.YtcckofgleghbgaaDoor
