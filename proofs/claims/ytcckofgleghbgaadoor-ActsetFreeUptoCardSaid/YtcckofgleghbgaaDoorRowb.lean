/- Contracts: row.Put, row.Get. -/
import Derived.Test.YtcckofgleghbgaaDoorRow
namespace Go.Proofs.YtcckofgleghbgaaDoor
open Go Sx
def putGo : List Int → List UInt64 → Option (List UInt8)
  | [], _ => some []
  | n :: w, ns => if n < 0 then (putGo w ns).map (putB 0 (-n).toNat ++ ·) else
    match ns with
    | [] => none
    | x :: ns => if decide (n < 8) && shrU x (8 * n).toNat != 0 then none else (putGo w ns).map (putB x n.toNat ++ ·)
theorem putGo_neg {n : Int} {w : List Int} {ns : List UInt64} (hn : n < 0) : putGo (n :: w) ns = (putGo w ns).map (putB 0 (-n).toNat ++ ·) := by
  simp only [putGo, if_pos hn]
theorem putGo_pos {n : Int} {w : List Int} {x : UInt64} {ns : List UInt64} (hn : ¬ n < 0) : putGo (n :: w) (x :: ns) = if decide (n < 8) && shrU x (8 * n).toNat != 0 then none else (putGo w ns).map (putB x n.toNat ++ ·) := by
  simp only [putGo, if_neg hn]
def rowPut (w : List Int) (ns : List UInt64) : Option (List UInt8) := if rowRight w && rowCount w == (ns.length : Int) then putGo w ns else none
/-- Bytes of our own, or nil, and whether. -/
def PutRes (p : Option (List UInt8)) (r : Value) (N : Own) : Prop := match p with
  | some l => ∃ s : Sl, r = .tuple #[s.v, .bool true] ∧ OwnB s l N
  | none => r = .tuple #[.slice none 0 0, .bool false]
theorem rcnt_cons (n : Int) (l : List Int) : rcnt (n :: l) = rcnt l + if n > 0 then 1 else 0 := by
  unfold rcnt
  by_cases h : n > 0 <;> simp [h]
set_option maxHeartbeats 1000000 in
set_option maxRecDepth 100000 in
theorem row_Put {h : GH} {s s1 : Sl} {l : List Int} {ns : List UInt64} (hs : IsInts h s l) (hs1 : IsNums h s1 ns) : Ctr Tryd.prog 97 [s.v, s1.v].toArray h [] fun r h' N => h' = h ∧ PutRes (rowPut l ns) r N := by
  have hn := hs.n
  have hsm := hs.small
  have hn1 := hs1.n
  have hsm1 := hs1.small
  obtain ⟨z, hz, hz2⟩ : ∃ z : Nat, rowSize l = (z : Int) ∧ z ≤ 4096 := by
    unfold rowSize
    split
    · rename_i hr
      have h1 := rsum_le hr l.length
      have h2 := rowRight_len hr
      rw [List.take_length] at h1
      exact ⟨(rsum l).toNat, by omega, by omega⟩
    · exact ⟨0, rfl, by omega⟩
  refine Ctr.of_run Tryd.func97 rfl rfl rfl fun w0 => ?_
  refine Run.seq ?_
  refine Run.region' ?_
  refine RunL.pure rfl rfl (OpG.plain rfl (OpP.assign (Val.of rfl))) ?_
  refine RunL.pure rfl rfl (OpG.plain rfl (OpP.assign (Val.of rfl))) ?_
  refine RunL.nil ?_
  refine RunQ.then_normal ?_
  refine Run.seq ?_
  refine Run.seq ?_
  refine Run.region' ?_
  refine RunL.pure rfl rfl (OpG.plain rfl (OpP.move (Val.of rfl))) ?_
  refine RunL.pure rfl rfl (OpG.plain rfl (OpP.call (by kernel_rfl) (.cons (Val.of rfl) .nil) (fun hA => by first | (have hct := row_Right hs; exact hct) | exact row_Right hs))) ?_
  refine RunL.pure rfl rfl (OpG.plain rfl (OpP.not (Val.of rfl))) ?_
  refine RunL.pure rfl rfl (OpG.plain rfl (OpP.move (Val.of rfl))) ?_
  refine RunL.pure rfl rfl (OpG.onF rfl rfl rfl (OpP.move (Val.of rfl))) ?_
  refine RunL.pure rfl rfl (OpG.onF rfl rfl rfl (OpP.call (by kernel_rfl) (.cons (Val.lz rfl) .nil) (fun hA => by first | (have hct := row_Count hs; exact hct) | exact row_Count hs))) ?_
  refine RunL.pure rfl rfl (OpG.onF rfl rfl rfl (OpP.move (Val.of rfl))) ?_
  refine RunL.pure rfl rfl (OpG.onF rfl rfl rfl (OpP.lenSl (Val.lz rfl) inferInstance)) ?_
  refine RunL.pure rfl rfl (OpG.onF rfl rfl rfl (OpP.bin (Val.lz rfl) (Val.lz rfl) rfl)) ?_
  refine RunL.pure rfl rfl (OpG.plain rfl (OpP.pick_or rfl rfl rfl)) ?_
  refine RunL.nil ?_
  refine RunQ.then_normal ?_
  refine Run.cond rfl (fun hc0 => ?_) (fun hc0 => ?_)
  · refine Run.seq ?_
    refine Run.region' ?_
    refine RunL.pure rfl rfl (OpG.plain rfl (OpP.assign (Val.of rfl))) ?_
    refine RunL.pure rfl rfl (OpG.plain rfl (OpP.assign (Val.of rfl))) ?_
    refine RunL.nil ?_
    refine RunQ.then_normal ?_
    refine Run.ret ?_
    refine RunQ.then_ret ?_
    refine RunQ.ret2 rfl rfl rfl ?_
    refine ⟨rfl, ?_⟩
    have : rowPut l ns = none := by
      unfold rowPut
      rw [if_neg]
      intro hc
      simp only [Bool.and_eq_true, beq_iff_eq] at hc
      simp [hc.1, hc.2, hn1] at hc0
    rw [this]; rfl
  · have hc : rowRight l = true ∧ rowCount l = (s1.n : Int) := by simpa using hc0
    obtain ⟨hr, hcnt⟩ := hc
    have hlen := rowRight_len hr
    have hp : rowPut l ns = putGo l ns := by simp [rowPut, hr, hcnt, hn1]
    have hcnt' : (ns.length : Int) = rcnt l := by simp [rowCount, hr] at hcnt; omega
    refine Run.skip ?_
    refine RunQ.then_normal ?_
    refine Run.seq ?_
    refine Run.region' ?_
    refine RunL.pure rfl rfl (OpG.plain rfl (OpP.move (Val.of rfl))) ?_
    refine RunL.pure rfl rfl (OpG.plain rfl (OpP.call (by kernel_rfl) (.cons (Val.of rfl) .nil) (fun hA => by have := row_Size (h := h) hs; rw [hz] at this; exact this))) ?_
    refine RunL.makeSlice inferInstance inferInstance inferInstance inferInstance rfl (m := 0) (c := z) rfl rfl rfl rfl (by omega) (by omega) (by omega) fun b1 => ?_
    refine RunL.pure rfl rfl (OpG.plain rfl (OpP.assign (Val.of rfl))) ?_
    refine RunL.nil ?_
    refine RunQ.then_normal ?_
    refine Run.seq ?_
    refine Run.seq ?_
    refine Run.region' ?_
    refine RunL.pure rfl rfl (OpG.plain rfl (OpP.move (Val.of rfl))) ?_
    refine RunL.pure rfl rfl (OpG.plain rfl (OpP.lenSl (Val.of rfl) inferInstance)) ?_
    refine RunL.pure rfl rfl (OpG.plain rfl (OpP.move (Val.of rfl))) ?_
    refine RunL.nil ?_
    refine RunQ.then_normal ?_
    refine Run.block ?_
    refine Run.loopT (fun m E h' L' => ∃ (k : Nat) (acc : List UInt8) (rest : List UInt64) (s2 sb : Sl), k ≤ l.length ∧ m = l.length - k ∧ h' = h ∧ IsNums h s2 rest ∧ OwnB sb acc L' ∧ putGo l ns = (putGo (l.drop k) rest).map (acc ++ ·) ∧ (rest.length : Int) = rcnt (l.drop k) ∧ acc.length ≤ 64 * k ∧
      E = [(1, s2.v), (6, sb.v), (23, s.v), (24, .int .i64 (s.n : Int)), (25, i64v (k : Int))]) l.length ⟨0, [], ns, s1, ⟨some ⟨b1, 0, none⟩, 0, z⟩, Nat.zero_le _, rfl, rfl, hs1, OwnSl.made (zero := [.int .u8 0]) rfl (by omega) (by simp [maxLen]; omega), by simp, by simpa using hcnt', by simp, rfl⟩ ⟨rfl, rfl, rfl, rfl, rfl, trivial⟩ Take.whole ?_
    rintro m E1 h1 L1 ⟨k, acc, rest, s2, sb, hk, rfl, rfl, hs2, hob, hgo, hrest, hacc, rfl⟩
    have hn2 := hs2.n
    have hle2 := hs2.sl.le
    refine Run.seq ?_
    refine Run.region' ?_
    refine RunL.pure rfl rfl (OpG.plain rfl (OpP.bin (Val.of rfl) (Val.of rfl) rfl)) ?_
    refine RunL.nil ?_
    refine RunQ.then_normal ?_
    refine Run.seq ?_
    refine Run.cond rfl (fun hc1 => ?_) (fun hc1 => ?_)
    · have hlt : k < l.length := by simp only [decide_eq_true_eq] at hc1; omega
      obtain ⟨b, o, c, rfl, hle, hcell⟩ := hs.at (by intro e; subst e; simp at hlt)
      have hx := hcell k hlt
      have hg := rowRight_get hr (List.getElem_mem hlt)
      have hdrop : l.drop k = l[k] :: l.drop (k + 1) := List.drop_eq_getElem_cons hlt
      rw [hdrop] at hgo hrest
      rw [rcnt_cons] at hrest
      generalize l[k] = x at *
      refine Run.skip ?_
      refine RunQ.then_normal ?_
      refine Run.seq ?_
      refine Run.block ?_
      refine Run.seq ?_
      refine Run.region' ?_
      refine RunL.pure rfl rfl (OpG.plain rfl (by first | exact OpP.indexSl (Val.of rfl) (Val.of rfl) (fun _ => by omega) inferInstance inferInstance | exact OpP.indexI (Val.of rfl) (Val.of rfl) (fun _ => by omega) (fun _ => by omega) inferInstance inferInstance)) ?_
      refine RunL.pure rfl rfl (OpG.plain rfl (by first | exact OpP.load1 (Val.of rfl) (fun _ => .own Take.head rfl) inferInstance | exact OpP.load1 (Val.of rfl) (fun _ => .own (Take.cons Take.head) rfl) inferInstance | exact OpP.load1 (Val.of rfl) (fun _ => .own (Take.cons (Take.cons Take.head)) rfl) inferInstance | exact OpP.load1 (Val.of rfl) (fun _ => .own (Take.cons (Take.cons (Take.cons Take.head))) rfl) inferInstance | exact OpP.load1 (Val.of rfl) (fun _ => .own (Take.cons (Take.cons (Take.cons (Take.cons Take.head)))) rfl) inferInstance | exact OpP.load1 (Val.of rfl) (fun _ => .own (Take.app Take.head) rfl) inferInstance | exact OpP.load1 (Val.of rfl) (fun _ => .own (Take.app (Take.cons Take.head)) rfl) inferInstance | exact OpP.load1 (Val.of rfl) (fun _ => .own (Take.cons (Take.app Take.head)) rfl) inferInstance | exact OpP.load1 (Val.of rfl) (fun _ => .own (Take.app (Take.cons (Take.cons Take.head))) rfl) inferInstance | exact OpP.load1 (Val.of rfl) (fun _ => .own (Take.cons (Take.app (Take.cons Take.head))) rfl) inferInstance | exact OpP.load1 (Val.of rfl) (fun _ => .own (Take.cons (Take.cons (Take.app Take.head))) rfl) inferInstance | exact OpP.load1 (Val.of rfl) (fun _ => .own (Take.app (Take.cons (Take.cons (Take.cons Take.head)))) rfl) inferInstance | exact OpP.load1 (Val.of rfl) (fun _ => .own (Take.cons (Take.app (Take.cons (Take.cons Take.head)))) rfl) inferInstance | exact OpP.load1 (Val.of rfl) (fun _ => .own (Take.cons (Take.cons (Take.app (Take.cons Take.head)))) rfl) inferInstance | exact OpP.load1 (Val.of rfl) (fun _ => .own (Take.cons (Take.cons (Take.cons (Take.app Take.head)))) rfl) inferInstance | exact OpP.load1 (Val.of rfl) (fun _ => .inl (by assumption)) inferInstance)) ?_
      refine RunL.pure rfl rfl (OpG.plain rfl (OpP.assign (Val.of rfl))) ?_
      refine RunL.nil ?_
      refine RunQ.then_normal ?_
      refine Run.seq ?_
      refine Run.seq ?_
      refine Run.region' ?_
      refine RunL.pure rfl rfl (OpG.plain rfl (OpP.move (Val.of rfl))) ?_
      refine RunL.pure rfl rfl (OpG.plain rfl (OpP.bin (Val.of rfl) (Val.of rfl) rfl)) ?_
      refine RunL.nil ?_
      refine RunQ.then_normal ?_
      refine Run.cond rfl (fun hc2 => ?_) (fun hc2 => ?_)
      · have hneg : x < 0 := by simpa using hc2
        have hxn : -x = (((-x).toNat : Nat) : Int) := by omega
        refine Run.seq ?_
        refine Run.region' ?_
        refine RunL.pure rfl rfl (OpG.plain rfl (OpP.move (Val.of rfl))) ?_
        refine RunL.pure rfl rfl (OpG.plain rfl (OpP.move (Val.of rfl))) ?_
        refine RunL.pure rfl rfl (OpG.plain rfl (by first | exact OpP.neg64 (Val.of rfl) (by omega) (by omega) | exact OpP.neg (Val.of rfl))) ?_
        have hct := row_put (h := h1) (w := (-x).toNat) (n := 0) hob (by omega) (by omega)
        rw [← hxn] at hct
        refine RunL.call rfl (by kernel_rfl) rfl Take.whole hct (fun v h2 N2 hle ⟨he, s3, hv, ho2⟩ => ?_)
        subst he hv
        refine RunL.pure rfl rfl (OpG.plain rfl (OpP.assign (Val.of rfl))) ?_
        refine RunL.nil ?_
        refine RunQ.then_normal ?_
        refine Run.exit ?_
        refine RunQ.then_exit ?_
        refine RunQ.block_exit ?_
        refine RunQ.then_normal ?_
        refine Run.region' ?_
        refine RunL.pure rfl rfl (OpG.plain rfl (by first | exact OpP.add64 (Val.of rfl) (Val.of rfl) (by omega) (by omega) | exact OpP.bin (Val.of rfl) (Val.of rfl) rfl)) ?_
        refine RunL.pure rfl rfl (OpG.plain rfl (OpP.move (Val.of rfl))) ?_
        refine RunL.nil ?_
        refine RunQ.againT (l.length - (k + 1)) (by omega) ⟨k + 1, acc ++ putB 0 (-x).toNat, rest, s2, s3, by omega, rfl, rfl, hs2, ho2, ?_, ?_, ?_, rfl⟩ ⟨rfl, rfl, rfl, rfl, rfl, trivial⟩ Take.here
        · rw [hgo, putGo_neg hneg]; simp [Function.comp_def]
        · rw [if_neg (by omega)] at hrest; omega
        · simp [putB_length]; omega
      · have hpos : ¬ x < 0 := by simpa using hc2
        have hxp : x = ((x.toNat : Nat) : Int) := by omega
        have hrpos : 0 < rest.length := by
          rw [if_pos (by omega)] at hrest
          have : 0 ≤ rcnt (l.drop (k + 1)) := (by unfold rcnt; omega)
          omega
        obtain ⟨y, rest', rfl⟩ : ∃ y r, rest = y :: r := by cases rest with | nil => simp at hrpos | cons y r => exact ⟨y, r, rfl⟩
        obtain ⟨b2, o2, c2, rfl, hle3, hcell2⟩ := hs2.at (by simp)
        have hy := hcell2 0 (by simp)
        simp only [List.getElem_cons_zero] at hy
        have hlc : (y :: rest').length = rest'.length + 1 := rfl
        refine Run.skip ?_
        refine RunQ.then_normal ?_
        refine Run.seq ?_
        refine Run.region' ?_
        refine RunL.pure rfl rfl (OpG.plain rfl (OpP.move (Val.of rfl))) ?_
        refine RunL.pure rfl rfl (OpG.plain rfl (OpP.indexSl (i := 0) (Val.of rfl) (Val.of rfl) (fun _ => by omega) inferInstance inferInstance)) ?_
        refine RunL.pure rfl rfl (OpG.plain rfl (by first | exact OpP.load1 (Val.of rfl) (fun _ => .own Take.head rfl) inferInstance | exact OpP.load1 (Val.of rfl) (fun _ => .own (Take.cons Take.head) rfl) inferInstance | exact OpP.load1 (Val.of rfl) (fun _ => .own (Take.cons (Take.cons Take.head)) rfl) inferInstance | exact OpP.load1 (Val.of rfl) (fun _ => .own (Take.cons (Take.cons (Take.cons Take.head))) rfl) inferInstance | exact OpP.load1 (Val.of rfl) (fun _ => .own (Take.cons (Take.cons (Take.cons (Take.cons Take.head)))) rfl) inferInstance | exact OpP.load1 (Val.of rfl) (fun _ => .own (Take.app Take.head) rfl) inferInstance | exact OpP.load1 (Val.of rfl) (fun _ => .own (Take.app (Take.cons Take.head)) rfl) inferInstance | exact OpP.load1 (Val.of rfl) (fun _ => .own (Take.cons (Take.app Take.head)) rfl) inferInstance | exact OpP.load1 (Val.of rfl) (fun _ => .own (Take.app (Take.cons (Take.cons Take.head))) rfl) inferInstance | exact OpP.load1 (Val.of rfl) (fun _ => .own (Take.cons (Take.app (Take.cons Take.head))) rfl) inferInstance | exact OpP.load1 (Val.of rfl) (fun _ => .own (Take.cons (Take.cons (Take.app Take.head))) rfl) inferInstance | exact OpP.load1 (Val.of rfl) (fun _ => .own (Take.app (Take.cons (Take.cons (Take.cons Take.head)))) rfl) inferInstance | exact OpP.load1 (Val.of rfl) (fun _ => .own (Take.cons (Take.app (Take.cons (Take.cons Take.head)))) rfl) inferInstance | exact OpP.load1 (Val.of rfl) (fun _ => .own (Take.cons (Take.cons (Take.app (Take.cons Take.head)))) rfl) inferInstance | exact OpP.load1 (Val.of rfl) (fun _ => .own (Take.cons (Take.cons (Take.cons (Take.app Take.head)))) rfl) inferInstance | exact OpP.load1 (Val.of rfl) (fun _ => .inl (by assumption)) inferInstance)) ?_
        refine RunL.pure rfl rfl (OpG.plain rfl (OpP.assign (Val.of rfl))) ?_
        refine RunL.nil ?_
        refine RunQ.then_normal ?_
        refine Run.seq ?_
        refine Run.seq ?_
        refine Run.region' ?_
        refine RunL.pure rfl rfl (OpG.plain rfl (OpP.move (Val.of rfl))) ?_
        refine RunL.pure rfl rfl (OpG.plain rfl (OpP.bin (Val.of rfl) (Val.of rfl) rfl)) ?_
        refine RunL.pure rfl rfl (OpG.plain rfl (OpP.move (Val.of rfl))) ?_
        refine RunL.pure rfl rfl (OpG.onT rfl rfl rfl (OpP.move (Val.of rfl))) ?_
        refine RunL.pure rfl rfl (OpG.onT rfl rfl rfl (OpP.move (Val.of rfl))) ?_
        refine RunL.pure rfl rfl (OpG.onT rfl rfl rfl (by first | exact OpP.mul64 (Val.of rfl) (Val.lz rfl) (by omega) (by omega) | exact OpP.bin (Val.of rfl) (Val.lz rfl) rfl)) ?_
        refine RunL.pure rfl rfl (OpG.onT rfl rfl rfl (by first | exact OpP.shr_u64 (Val.lz rfl) (Val.lz rfl) (by first | decide | omega) | exact OpP.shr (Val.lz rfl) (Val.lz rfl) (by decide) | exact OpP.shr (Val.lz rfl) (Val.lz rfl) (by omega))) ?_
        refine RunL.pure rfl rfl (OpG.onT rfl rfl rfl (by first | exact OpP.neq_u64 (Val.lz rfl) (Val.c64 (Val.of rfl) (by decide)) | exact OpP.bin (Val.lz rfl) (Val.of rfl) rfl)) ?_
        refine RunL.pure rfl rfl (OpG.plain rfl (OpP.pick_and rfl rfl rfl)) ?_
        refine RunL.nil ?_
        refine RunQ.then_normal ?_
        refine Run.cond rfl (fun hc3 => ?_) (fun hc3 => ?_)
        · refine Run.seq ?_
          refine Run.region' ?_
          refine RunL.pure rfl rfl (OpG.plain rfl (OpP.assign (Val.of rfl))) ?_
          refine RunL.pure rfl rfl (OpG.plain rfl (OpP.assign (Val.of rfl))) ?_
          refine RunL.nil ?_
          refine RunQ.then_normal ?_
          refine Run.ret ?_
          refine RunQ.then_ret ?_
          refine RunQ.block_ret ?_
          refine RunQ.then_ret ?_
          refine RunQ.then_ret ?_
          refine RunQ.block_ret ?_
          refine RunQ.then_ret ?_
          refine RunQ.ret2 rfl rfl rfl ?_
          refine ⟨rfl, ?_⟩
          rw [hp, hgo, putGo_pos hpos]
          have : (decide (x < 8) && shrU y (8 * x).toNat != 0) = true := by simpa using hc3
          simp only [this, if_true]
          rfl
        · refine Run.skip ?_
          refine RunQ.then_normal ?_
          apply Run.drawS 8 [true, true, true, false, true, true, false, false] [_, _, _, undef, _, _, undef, undef] (by kernel_rfl) rfl (by kernel_rfl)
          apply Stage.act 8 [3] rfl (by kernel_rfl) (by kernel_rfl)
          · refine FrontOk.cons (OpG.plain rfl (OpP.move (Val.of rfl))) ?_
            refine FrontOk.cons (OpG.plain rfl (OpP.move (Val.of rfl))) ?_
            refine FrontOk.cons (OpG.plain rfl (OpP.move (Val.of rfl))) ?_
            refine FrontOk.skip rfl ?_
            refine FrontOk.cons (OpG.plain rfl (OpP.move (Val.of rfl))) ?_
            refine FrontOk.cons (OpG.plain rfl (by first | exact OpP.sliceLo (i := 1) (Val.of rfl) (Val.of rfl) (fun _ => by omega) inferInstance inferInstance | exact OpP.sliceLoI (Val.of rfl) (Val.of rfl) (fun _ => by omega) (fun _ => by omega) inferInstance inferInstance)) ?_
            refine FrontOk.skip rfl ?_
            refine FrontOk.skip rfl ?_
            exact FrontOk.nil
          refine all_cons ?_ all_nil
          refine ActOk.mk 8 [true, true, true, true, true, true, true, true] [false, false, false, true, false, false, false, false] rfl rfl rfl (OpXG.call (by kernel_rfl) rfl Take.whole (by have := row_put (h := h1) (w := x.toNat) (n := y) hob (by omega) (by omega); rw [← hxp] at this; exact this)) ?_
          rintro v3 h2 L2 hle2 ⟨N2, ⟨he, s3, hv, ho2⟩, hL⟩
          subst he hv hL
          apply Stage.goto [_, _, _, _, _, _, _, _]
          · exact ⟨rfl, rfl, rfl, rfl, rfl, trivial⟩
          · rfl
          apply Stage.last 8 rfl (by kernel_rfl) rfl rfl
          · refine FrontOk.cons (OpG.plain rfl (OpP.move (Val.of rfl))) ?_
            refine FrontOk.cons (OpG.plain rfl (OpP.move (Val.of rfl))) ?_
            refine FrontOk.cons (OpG.plain rfl (OpP.move (Val.of rfl))) ?_
            refine FrontOk.done rfl ?_
            refine FrontOk.cons (OpG.plain rfl (OpP.move (Val.of rfl))) ?_
            refine FrontOk.cons (OpG.plain rfl (by first | exact OpP.sliceLo (i := 1) (Val.of rfl) (Val.of rfl) (fun _ => by omega) inferInstance inferInstance | exact OpP.sliceLoI (Val.of rfl) (Val.of rfl) (fun _ => by omega) (fun _ => by omega) inferInstance inferInstance)) ?_
            refine FrontOk.cons (OpG.plain rfl (OpP.assign (Val.of rfl))) ?_
            refine FrontOk.cons (OpG.plain rfl (OpP.assign (Val.of rfl))) ?_
            exact FrontOk.nil
          · rfl
          · rfl
          refine RunL.nil ?_
          refine RunQ.block_normal ?_
          refine RunQ.then_normal ?_
          refine Run.region' ?_
          refine RunL.pure rfl rfl (OpG.plain rfl (by first | exact OpP.add64 (Val.of rfl) (Val.of rfl) (by omega) (by omega) | exact OpP.bin (Val.of rfl) (Val.of rfl) rfl)) ?_
          refine RunL.pure rfl rfl (OpG.plain rfl (OpP.move (Val.of rfl))) ?_
          refine RunL.nil ?_
          refine RunQ.againT (l.length - (k + 1)) (by omega) ⟨k + 1, acc ++ putB y x.toNat, rest', _, s3, by omega, rfl, rfl, hs2.drop 1 (by simp), ho2, ?_, ?_, ?_, rfl⟩ ⟨rfl, rfl, rfl, rfl, rfl, trivial⟩ Take.here
          · rw [hgo, putGo_pos hpos]
            have : (decide (x < 8) && shrU y (8 * x).toNat != 0) = false := by simpa using hc3
            simp only [this, Bool.false_eq_true, if_false]; simp [Function.comp_def]
          · rw [if_pos (by omega)] at hrest; simp at hrest ⊢; omega
          · simp [putB_length]; omega
    · have hge : k = l.length := by simp only [decide_eq_false_iff_not] at hc1; omega
      refine Run.exit ?_
      refine RunQ.then_exit ?_
      refine RunQ.then_exit ?_
      refine RunQ.block_exit ?_
      refine RunQ.then_normal ?_
      refine Run.seq ?_
      refine Run.region' ?_
      refine RunL.pure rfl rfl (OpG.plain rfl (OpP.move (Val.of rfl))) ?_
      refine RunL.pure rfl rfl (OpG.plain rfl (OpP.assign (Val.of rfl))) ?_
      refine RunL.pure rfl rfl (OpG.plain rfl (OpP.assign (Val.of rfl))) ?_
      refine RunL.nil ?_
      refine RunQ.then_normal ?_
      refine Run.ret ?_
      refine RunQ.ret2 rfl rfl rfl ?_
      refine ⟨rfl, ?_⟩
      rw [hp, hgo, hge]
      simp only [List.drop_length, putGo, Option.map_some, List.append_nil]
      exact ⟨sb, rfl, hob⟩
def getGo : List Int → List UInt8 → Except Int (List UInt64)
  | [], _ => .ok []
  | n :: w, b => if b.length < (max n (-n)).toNat then .error 1 else if n > 0 then (getGo w (b.drop (max n (-n)).toNat)).map (num (b.take (max n (-n)).toNat) :: ·)
    else if allZero (b.take (max n (-n)).toNat) then getGo w (b.drop (max n (-n)).toNat) else .error 2
def rowGet (w : List Int) (b : List UInt8) : List UInt64 × Int := if rowRight w then (match getGo w b with | .ok l => (l, 0) | .error e => ([], e)) else ([], 2)
abbrev OwnU (s : Sl) (xs : List UInt64) (N : Own) : Prop := OwnSl 36 1 s (xs.map u64v) N
theorem OwnU.n {s : Sl} {xs : List UInt64} {N : Own} (ho : OwnU s xs N) : s.n = xs.length := by have := OwnSl.length ho; simp at this; omega
theorem except_map_map {ε α β γ : Type} (f : α → β) (g : β → γ) (x : Except ε α) : (x.map f).map g = x.map (g ∘ f) := by cases x <;> rfl
end Go.Proofs.YtcckofgleghbgaaDoor
