/- Contracts: package field. -/
import Derived.Test.YtcckofgleghbgaaDoorDat
namespace Go.Proofs.YtcckofgleghbgaaDoor
open Go Sx
def bitsTab : List Int := [32, 32, 64, 48, 48, 16, 13, 3, 6, 2, 8, 32, 32, 16, 16, 16, 16, 16, 16, 8, 8, 16, 32, 32, 48, 48, 128, 128, 20, 8, 8, 128, 48, 48, 20, 3, 1, 24, 64, 9]
def fbits (n : Int) : Int := bitsTab.getD n.toNat 0
def fis (n : Int) : Bool := decide (0 ≤ n) && decide (n < 40)
def fsize (n : Int) : Int := if n == 28 || n == 34 then 4 else (fbits n + 7) / 8
def fmasked (n : Int) : Bool := (n == 2 || (n == 3 || (n == 4 || (n == 6 || (n == 11 || (n == 12 || (n == 37 || (n == 38 || n == 39)))))))) || (n == 22 || (n == 23 || (n == 24 || (n == 25 || (n == 26 || (n == 27 || n == 28))))))
theorem bitsTab_get (n : Int) (_ : 0 ≤ n) (h1 : n < 40) : (bitsTab.map i64v).toArray[0 + n.toNat * 1]? = some (i64v (fbits n)) := by
  have : n.toNat < bitsTab.length := by simp [bitsTab]; omega
  simp [fbits, List.getD, this]
theorem fbits_le (n : Int) : 0 ≤ fbits n ∧ fbits n ≤ 128 := by
  unfold fbits
  rw [List.getD_eq_getElem?_getD]
  cases h : bitsTab[n.toNat]? with
  | none => simp
  | some v =>
    have := List.mem_of_getElem? h
    simp only [bitsTab, List.mem_cons, List.not_mem_nil, or_false] at this
    simp; omega
theorem fsize_le (n : Int) : 0 ≤ fsize n ∧ fsize n ≤ 16 := by
  have := fbits_le n
  unfold fsize; split <;> omega
set_option maxRecDepth 100000 in
theorem field_is {h : GH} (n : Int) : Ctr Tryd.prog 99 [i64v n].toArray h [] fun r _ _ => r = .bool (fis n) := by
  refine Ctr.of_run Tryd.func99 rfl rfl rfl fun w0 => ?_
  refine Run.seq ?_
  refine Run.region' ?_
  refine RunL.pure rfl rfl (OpG.plain rfl (OpP.assign (Val.of rfl))) ?_
  refine RunL.nil ?_
  refine RunQ.then_normal ?_
  refine Run.seq ?_
  refine Run.region' ?_
  refine RunL.pure rfl rfl (OpG.plain rfl (OpP.move (Val.of rfl))) ?_
  refine RunL.pure rfl rfl (OpG.plain rfl (OpP.bin (Val.of rfl) (Val.of rfl) rfl)) ?_
  refine RunL.pure rfl rfl (OpG.plain rfl (OpP.move (Val.of rfl))) ?_
  refine RunL.pure rfl rfl (OpG.onT rfl rfl rfl (OpP.move (Val.of rfl))) ?_
  refine RunL.pure rfl rfl (OpG.onT rfl rfl rfl (OpP.bin (Val.lz rfl) (Val.of rfl) rfl)) ?_
  refine RunL.pure rfl rfl (OpG.plain rfl (OpP.pick_and rfl rfl rfl)) ?_
  refine RunL.pure rfl rfl (OpG.plain rfl (OpP.assign (Val.of rfl))) ?_
  refine RunL.nil ?_
  refine RunQ.then_normal ?_
  refine Run.ret ?_
  refine RunQ.ret1 rfl rfl ?_
  rfl
set_option maxRecDepth 100000 in
theorem field_bits {h : GH} {n : Int} (h0 : 0 ≤ n) (h1 : n < 40) : Ctr Tryd.prog 100 [i64v n].toArray h [] fun r _ _ => r = i64v (fbits n) := by
  refine Ctr.of_run Tryd.func100 rfl rfl rfl fun w0 => ?_
  refine Run.seq ?_
  refine Run.region' ?_
  refine RunL.pure rfl rfl (OpG.plain rfl (OpP.assign (Val.of rfl))) ?_
  refine RunL.nil ?_
  refine RunQ.then_normal ?_
  refine Run.seq ?_
  refine Run.region' ?_
  refine RunL.pure rfl rfl (OpG.plain rfl (OpP.buildArr inferInstance inferInstance inferInstance rfl rfl)) ?_
  refine RunL.alloc inferInstance rfl rfl fun b1 => ?_
  apply RunL.store inferInstance rfl rfl
  · first | exact Take.head | exact (Take.cons Take.head) | exact (Take.cons (Take.cons Take.head)) | exact (Take.cons (Take.cons (Take.cons Take.head))) | exact (Take.cons (Take.cons (Take.cons (Take.cons Take.head)))) | exact (Take.app Take.head) | exact (Take.app (Take.cons Take.head)) | exact (Take.cons (Take.app Take.head)) | exact (Take.app (Take.cons (Take.cons Take.head))) | exact (Take.cons (Take.app (Take.cons Take.head))) | exact (Take.cons (Take.cons (Take.app Take.head))) | exact (Take.app (Take.cons (Take.cons (Take.cons Take.head)))) | exact (Take.cons (Take.app (Take.cons (Take.cons Take.head)))) | exact (Take.cons (Take.cons (Take.app (Take.cons Take.head)))) | exact (Take.cons (Take.cons (Take.cons (Take.app Take.head))))
  · rfl
  · rfl
  · rfl
  · rfl
  refine RunL.nil ?_
  refine RunQ.then_normal ?_
  refine Run.seq ?_
  refine Run.region' ?_
  refine RunL.pure rfl rfl (OpG.plain rfl (OpP.move (Val.of rfl))) ?_
  refine RunL.pure rfl rfl (OpG.plain rfl (by first | exact OpP.indexArr (Val.of rfl) (Val.of rfl) (fun _ => by omega) inferInstance inferInstance | exact OpP.indexArrI (Val.of rfl) (Val.of rfl) (fun _ => by omega) (fun _ => by omega) inferInstance inferInstance)) ?_
  refine RunL.pure rfl rfl (OpG.plain rfl (OpP.load1 (Val.of rfl) (fun _ => .own Take.head (by exact bitsTab_get n h0 h1)) inferInstance)) ?_
  refine RunL.pure rfl rfl (OpG.plain rfl (OpP.assign (Val.of rfl))) ?_
  refine RunL.nil ?_
  refine RunQ.then_normal ?_
  refine Run.ret ?_
  refine RunQ.ret1 rfl rfl ?_
  rfl
set_option maxRecDepth 100000 in
theorem field_size {h : GH} {n : Int} (h0 : 0 ≤ n) (h1 : n < 40) : Ctr Tryd.prog 101 [i64v n].toArray h [] fun r _ _ => r = i64v (fsize n) := by
  have hb := fbits_le n
  refine Ctr.of_run Tryd.func101 rfl rfl rfl fun w0 => ?_
  refine Run.seq ?_
  refine Run.region' ?_
  refine RunL.pure rfl rfl (OpG.plain rfl (OpP.assign (Val.of rfl))) ?_
  refine RunL.nil ?_
  refine RunQ.then_normal ?_
  refine Run.seq ?_
  refine Run.seq ?_
  refine Run.region' ?_
  refine RunL.pure rfl rfl (OpG.plain rfl (OpP.move (Val.of rfl))) ?_
  refine RunL.nil ?_
  refine RunQ.then_normal ?_
  refine Run.block ?_
  refine Run.seq ?_
  refine Run.chain (Chain.step rfl rfl rfl rfl rfl rfl (Chain.last rfl rfl rfl rfl rfl)) ?_
  refine RunQ.then_normal ?_
  refine Run.cond rfl (fun hc0 => ?_) (fun hc0 => ?_)
  · refine Run.seq ?_
    refine Run.region' ?_
    refine RunL.pure rfl rfl (OpG.plain rfl (OpP.assign (Val.of rfl))) ?_
    refine RunL.nil ?_
    refine RunQ.then_normal ?_
    refine Run.ret ?_
    refine RunQ.block_ret ?_
    refine RunQ.then_ret ?_
    refine RunQ.ret1 rfl rfl ?_
    simp [fsize, hc0]
  · refine Run.skip ?_
    refine RunQ.block_normal ?_
    refine RunQ.then_normal ?_
    refine Run.seq ?_
    refine Run.region' ?_
    refine RunL.pure rfl rfl (OpG.plain rfl (OpP.move (Val.of rfl))) ?_
    refine RunL.pure rfl rfl (OpG.plain rfl (OpP.call (by kernel_rfl) (.cons (Val.of rfl) .nil) (fun hA => by first | (have hct := field_bits h0 h1; exact hct) | exact field_bits h0 h1))) ?_
    refine RunL.pure rfl rfl (OpG.plain rfl (by first | exact OpP.add64 (Val.of rfl) (Val.of rfl) (by omega) (by omega) | exact OpP.bin (Val.of rfl) (Val.of rfl) rfl)) ?_
    refine RunL.pure rfl rfl (OpG.plain rfl (by first | exact OpP.sub64 (Val.of rfl) (Val.of rfl) (by omega) (by omega) | exact OpP.bin (Val.of rfl) (Val.of rfl) rfl)) ?_
    refine RunL.pure rfl rfl (OpG.plain rfl (by first | exact OpP.quo (Val.of rfl) (Val.of rfl) (by decide) | exact OpP.quo (Val.of rfl) (Val.of rfl) (by omega))) ?_
    refine RunL.pure rfl rfl (OpG.plain rfl (OpP.assign (Val.of rfl))) ?_
    refine RunL.nil ?_
    refine RunQ.then_normal ?_
    refine Run.ret ?_
    refine RunQ.ret1 rfl rfl ?_
    have : IntKind.i64.wrap ((fbits n + 8 - 1).tdiv 8) = (fbits n + 7) / 8 := by
      rw [Int.tdiv_eq_ediv_of_nonneg (by omega), wrap64_in (by omega) (by omega)]; congr 1; omega
    rw [this]; simp [fsize, hc0]
set_option maxRecDepth 100000 in
theorem field_masked {h : GH} {n : Int} : Ctr Tryd.prog 102 [i64v n].toArray h [] fun r _ _ => r = .bool (fmasked n) := by
  refine Ctr.of_run Tryd.func102 rfl rfl rfl fun w0 => ?_
  refine Run.seq ?_
  refine Run.region' ?_
  refine RunL.pure rfl rfl (OpG.plain rfl (OpP.assign (Val.of rfl))) ?_
  refine RunL.nil ?_
  refine RunQ.then_normal ?_
  refine Run.seq ?_
  refine Run.seq ?_
  refine Run.region' ?_
  refine RunL.pure rfl rfl (OpG.plain rfl (OpP.move (Val.of rfl))) ?_
  refine RunL.nil ?_
  refine RunQ.then_normal ?_
  refine Run.block ?_
  refine Run.seq ?_
  refine Run.block ?_
  refine Run.block ?_
  refine Run.seq ?_
  refine Run.seq ?_
  refine Run.seq ?_
  refine Run.chain (Chain.step rfl rfl rfl rfl rfl rfl (Chain.step rfl rfl rfl rfl rfl rfl (Chain.step rfl rfl rfl rfl rfl rfl (Chain.step rfl rfl rfl rfl rfl rfl (Chain.step rfl rfl rfl rfl rfl rfl (Chain.step rfl rfl rfl rfl rfl rfl (Chain.step rfl rfl rfl rfl rfl rfl (Chain.step rfl rfl rfl rfl rfl rfl (Chain.last rfl rfl rfl rfl rfl))))))))) ?_
  refine RunQ.then_normal ?_
  refine Run.cond rfl (fun hc0 => ?_) (fun hc0 => ?_)
  · refine Run.exit ?_
    refine RunQ.then_exit ?_
    refine RunQ.then_exit ?_
    refine RunQ.block_exit ?_
    refine RunQ.block_normal ?_
    refine RunQ.then_normal ?_
    refine Run.seq ?_
    refine Run.seq ?_
    refine Run.region' ?_
    refine RunL.pure rfl rfl (OpG.plain rfl (OpP.assign (Val.of rfl))) ?_
    refine RunL.nil ?_
    refine RunQ.then_normal ?_
    refine Run.ret ?_
    refine RunQ.then_ret ?_
    refine RunQ.block_ret ?_
    refine RunQ.then_ret ?_
    refine RunQ.ret1 rfl rfl ?_
    simp [fmasked, *]
  · refine Run.skip ?_
    refine RunQ.then_normal ?_
    refine Run.seq ?_
    refine Run.chain (Chain.step rfl rfl rfl rfl rfl rfl (Chain.step rfl rfl rfl rfl rfl rfl (Chain.step rfl rfl rfl rfl rfl rfl (Chain.step rfl rfl rfl rfl rfl rfl (Chain.step rfl rfl rfl rfl rfl rfl (Chain.step rfl rfl rfl rfl rfl rfl (Chain.last rfl rfl rfl rfl rfl))))))) ?_
    refine RunQ.then_normal ?_
    refine Run.cond rfl (fun hc1 => ?_) (fun hc1 => ?_)
    · refine Run.exit ?_
      refine RunQ.then_exit ?_
      refine RunQ.block_exit_other rfl ?_
      refine RunQ.block_exit ?_
      refine RunQ.then_normal ?_
      refine Run.seq ?_
      refine Run.seq ?_
      refine Run.region' ?_
      refine RunL.pure rfl rfl (OpG.plain rfl (OpP.assign (Val.of rfl))) ?_
      refine RunL.nil ?_
      refine RunQ.then_normal ?_
      refine Run.ret ?_
      refine RunQ.then_ret ?_
      refine RunQ.block_ret ?_
      refine RunQ.then_ret ?_
      refine RunQ.ret1 rfl rfl ?_
      simp [fmasked, *]
    · refine Run.skip ?_
      refine RunQ.then_normal ?_
      refine Run.exit ?_
      refine RunQ.block_exit_other rfl ?_
      refine RunQ.block_exit_other rfl ?_
      refine RunQ.then_exit ?_
      refine RunQ.block_exit ?_
      refine RunQ.then_normal ?_
      refine Run.seq ?_
      refine Run.region' ?_
      refine RunL.pure rfl rfl (OpG.plain rfl (OpP.assign (Val.of rfl))) ?_
      refine RunL.nil ?_
      refine RunQ.then_normal ?_
      refine Run.ret ?_
      refine RunQ.ret1 rfl rfl ?_
      simp [fmasked, *]
def fdeep (n : Int) : Int × List UInt64 :=
  if n == 13 || n == 14 then (10, [6]) else if n == 15 || n == 16 then (10, [17]) else if n == 17 || n == 18 then (10, [132]) else if n == 19 || n == 20 then (10, [1])
  else if n == 29 || n == 30 then (10, [58]) else if n == 31 then (29, [135, 136]) else if n == 32 then (29, [135]) else if n == 33 then (29, [136]) else (-1, [])
def fneed (n : Int) : Int × List UInt64 :=
  if n == 1 then (0, []) else if n == 7 then (6, []) else if n == 8 || (n == 9 || n == 10) then (5, [0x0800, 0x86dd]) else if n == 11 || n == 12 then (5, [0x0800])
  else if n == 21 || (n == 22 || (n == 23 || (n == 24 || n == 25))) then (5, [0x0806]) else if n == 26 || (n == 27 || (n == 28 || n == 39)) then (5, [0x86dd])
  else if n == 34 || (n == 35 || n == 36) then (5, [0x8847, 0x8848]) else if n == 37 then (5, [0x88e7]) else fdeep n
/-- A number and a slice of numbers. -/
def NeedRes (p : Int × List UInt64) (r : Value) (h : GH) : Prop := ∃ s : Sl, r = .tuple #[i64v p.1, s.v] ∧ IsNums h s p.2
theorem NeedRes.mk {p : Int × List UInt64} {h : GH} {k : Int} {l : List UInt64} {s : Sl} (hp : p = (k, l)) (hs : IsSl h 1 s (l.map u64v)) (hl : l.length ≤ 100) : NeedRes p (.tuple #[i64v k, s.v]) h := by
  subst hp; exact ⟨s, rfl, hs, Nat.le_trans hl (by decide)⟩
set_option maxHeartbeats 1000000 in
set_option maxRecDepth 100000 in
theorem field_deep {h : GH} {n : Int} : Ctr Tryd.prog 117 [i64v n].toArray h [] fun r h' _ => NeedRes (fdeep n) r h' := by
  refine Ctr.of_run Tryd.func117 rfl rfl rfl fun w0 => ?_
  refine Run.seq ?_
  refine Run.region' ?_
  refine RunL.pure rfl rfl (OpG.plain rfl (OpP.assign (Val.of rfl))) ?_
  refine RunL.pure rfl rfl (OpG.plain rfl (OpP.assign (Val.of rfl))) ?_
  refine RunL.nil ?_
  refine RunQ.then_normal ?_
  refine Run.seq ?_
  refine Run.seq ?_
  refine Run.region' ?_
  refine RunL.pure rfl rfl (OpG.plain rfl (OpP.move (Val.of rfl))) ?_
  refine RunL.nil ?_
  refine RunQ.then_normal ?_
  refine Run.block ?_
  refine Run.seq ?_
  refine Run.chain (Chain.step rfl rfl rfl rfl rfl rfl (Chain.last rfl rfl rfl rfl rfl)) ?_
  refine RunQ.then_normal ?_
  refine Run.cond rfl (fun hc0 => ?_) (fun hc0 => ?_)
  · refine Run.seq ?_
    refine Run.region' ?_
    refine RunL.buildSlice inferInstance inferInstance inferInstance rfl rfl rfl rfl rfl rfl fun b1 => ?_
    refine RunL.pure rfl rfl (OpG.plain rfl (OpP.assign (Val.of rfl))) ?_
    refine RunL.pure rfl rfl (OpG.plain rfl (OpP.assign (Val.of rfl))) ?_
    refine RunL.nil ?_
    refine RunQ.then_normal ?_
    refine Run.ret ?_
    refine RunQ.block_ret ?_
    refine RunQ.then_ret ?_
    refine RunQ.freezeB (size := 1) Take.head rfl (by simp [maxLen]) fun h1 _ hs => RunQ.ret2 rfl rfl rfl (NeedRes.mk (l := [6]) (by simp [fdeep, *]) hs (by simp))
  · refine Run.seq ?_
    refine Run.chain (Chain.step rfl rfl rfl rfl rfl rfl (Chain.last rfl rfl rfl rfl rfl)) ?_
    refine RunQ.then_normal ?_
    refine Run.cond rfl (fun hc1 => ?_) (fun hc1 => ?_)
    · refine Run.seq ?_
      refine Run.region' ?_
      refine RunL.buildSlice inferInstance inferInstance inferInstance rfl rfl rfl rfl rfl rfl fun b2 => ?_
      refine RunL.pure rfl rfl (OpG.plain rfl (OpP.assign (Val.of rfl))) ?_
      refine RunL.pure rfl rfl (OpG.plain rfl (OpP.assign (Val.of rfl))) ?_
      refine RunL.nil ?_
      refine RunQ.then_normal ?_
      refine Run.ret ?_
      refine RunQ.block_ret ?_
      refine RunQ.then_ret ?_
      refine RunQ.freezeB (size := 1) Take.head rfl (by simp [maxLen]) fun h1 _ hs => RunQ.ret2 rfl rfl rfl (NeedRes.mk (l := [17]) (by simp [fdeep, *]) hs (by simp))
    · refine Run.seq ?_
      refine Run.chain (Chain.step rfl rfl rfl rfl rfl rfl (Chain.last rfl rfl rfl rfl rfl)) ?_
      refine RunQ.then_normal ?_
      refine Run.cond rfl (fun hc2 => ?_) (fun hc2 => ?_)
      · refine Run.seq ?_
        refine Run.region' ?_
        refine RunL.buildSlice inferInstance inferInstance inferInstance rfl rfl rfl rfl rfl rfl fun b3 => ?_
        refine RunL.pure rfl rfl (OpG.plain rfl (OpP.assign (Val.of rfl))) ?_
        refine RunL.pure rfl rfl (OpG.plain rfl (OpP.assign (Val.of rfl))) ?_
        refine RunL.nil ?_
        refine RunQ.then_normal ?_
        refine Run.ret ?_
        refine RunQ.block_ret ?_
        refine RunQ.then_ret ?_
        refine RunQ.freezeB (size := 1) Take.head rfl (by simp [maxLen]) fun h1 _ hs => RunQ.ret2 rfl rfl rfl (NeedRes.mk (l := [132]) (by simp [fdeep, *]) hs (by simp))
      · refine Run.seq ?_
        refine Run.chain (Chain.step rfl rfl rfl rfl rfl rfl (Chain.last rfl rfl rfl rfl rfl)) ?_
        refine RunQ.then_normal ?_
        refine Run.cond rfl (fun hc3 => ?_) (fun hc3 => ?_)
        · refine Run.seq ?_
          refine Run.region' ?_
          refine RunL.buildSlice inferInstance inferInstance inferInstance rfl rfl rfl rfl rfl rfl fun b4 => ?_
          refine RunL.pure rfl rfl (OpG.plain rfl (OpP.assign (Val.of rfl))) ?_
          refine RunL.pure rfl rfl (OpG.plain rfl (OpP.assign (Val.of rfl))) ?_
          refine RunL.nil ?_
          refine RunQ.then_normal ?_
          refine Run.ret ?_
          refine RunQ.block_ret ?_
          refine RunQ.then_ret ?_
          refine RunQ.freezeB (size := 1) Take.head rfl (by simp [maxLen]) fun h1 _ hs => RunQ.ret2 rfl rfl rfl (NeedRes.mk (l := [1]) (by simp [fdeep, *]) hs (by simp))
        · refine Run.seq ?_
          refine Run.chain (Chain.step rfl rfl rfl rfl rfl rfl (Chain.last rfl rfl rfl rfl rfl)) ?_
          refine RunQ.then_normal ?_
          refine Run.cond rfl (fun hc4 => ?_) (fun hc4 => ?_)
          · refine Run.seq ?_
            refine Run.region' ?_
            refine RunL.buildSlice inferInstance inferInstance inferInstance rfl rfl rfl rfl rfl rfl fun b5 => ?_
            refine RunL.pure rfl rfl (OpG.plain rfl (OpP.assign (Val.of rfl))) ?_
            refine RunL.pure rfl rfl (OpG.plain rfl (OpP.assign (Val.of rfl))) ?_
            refine RunL.nil ?_
            refine RunQ.then_normal ?_
            refine Run.ret ?_
            refine RunQ.block_ret ?_
            refine RunQ.then_ret ?_
            refine RunQ.freezeB (size := 1) Take.head rfl (by simp [maxLen]) fun h1 _ hs => RunQ.ret2 rfl rfl rfl (NeedRes.mk (l := [58]) (by simp [fdeep, *]) hs (by simp))
          · refine Run.seq ?_
            refine Run.chain (Chain.last rfl rfl rfl rfl rfl) ?_
            refine RunQ.then_normal ?_
            refine Run.cond rfl (fun hc5 => ?_) (fun hc5 => ?_)
            · refine Run.seq ?_
              refine Run.region' ?_
              refine RunL.buildSlice inferInstance inferInstance inferInstance rfl rfl rfl rfl rfl rfl fun b6 => ?_
              refine RunL.pure rfl rfl (OpG.plain rfl (OpP.assign (Val.of rfl))) ?_
              refine RunL.pure rfl rfl (OpG.plain rfl (OpP.assign (Val.of rfl))) ?_
              refine RunL.nil ?_
              refine RunQ.then_normal ?_
              refine Run.ret ?_
              refine RunQ.block_ret ?_
              refine RunQ.then_ret ?_
              refine RunQ.freezeB (size := 1) Take.head rfl (by simp [maxLen]) fun h1 _ hs => RunQ.ret2 rfl rfl rfl (NeedRes.mk (l := [135, 136]) (by simp [fdeep, *]) hs (by simp))
            · refine Run.seq ?_
              refine Run.chain (Chain.step rfl rfl rfl rfl rfl rfl (Chain.last rfl rfl rfl rfl rfl)) ?_
              refine RunQ.then_normal ?_
              refine Run.cond rfl (fun hc6 => ?_) (fun hc6 => ?_)
              · refine Run.seq ?_
                refine Run.region' ?_
                refine RunL.pure rfl rfl (OpG.plain rfl (OpP.move (Val.of rfl))) ?_
                refine RunL.pure rfl rfl (OpG.plain rfl (by first | exact OpP.conv_i64_u64 (Val.of rfl) inferInstance inferInstance | exact OpP.conv (Val.of rfl) inferInstance inferInstance)) ?_
                refine RunL.pure rfl rfl (OpG.plain rfl (by first | exact OpP.add_u64 (Val.of rfl) (Val.c64 (Val.of rfl) (by decide)) | exact OpP.bin (Val.of rfl) (Val.of rfl) rfl)) ?_
                refine RunL.buildSlice inferInstance inferInstance inferInstance rfl rfl rfl rfl rfl rfl fun b7 => ?_
                refine RunL.pure rfl rfl (OpG.plain rfl (OpP.assign (Val.of rfl))) ?_
                refine RunL.pure rfl rfl (OpG.plain rfl (OpP.assign (Val.of rfl))) ?_
                refine RunL.nil ?_
                refine RunQ.then_normal ?_
                refine Run.ret ?_
                refine RunQ.block_ret ?_
                refine RunQ.then_ret ?_
                have h32 : n = 32 ∨ n = 33 := by simpa using hc6
                refine RunQ.freezeB (size := 1) Take.head rfl (by simp [maxLen]) fun h1 _ hs => ?_
                rcases h32 with h32 | h32
                · subst h32; exact RunQ.ret2 rfl rfl rfl (NeedRes.mk (l := [135]) (by simp [fdeep]) hs (by simp))
                · subst h32; exact RunQ.ret2 rfl rfl rfl (NeedRes.mk (l := [136]) (by simp [fdeep]) hs (by simp))
              · refine Run.skip ?_
                refine RunQ.block_normal ?_
                refine RunQ.then_normal ?_
                refine Run.seq ?_
                refine Run.region' ?_
                refine RunL.pure rfl rfl (OpG.plain rfl (OpP.assign (Val.of rfl))) ?_
                refine RunL.pure rfl rfl (OpG.plain rfl (OpP.assign (Val.of rfl))) ?_
                refine RunL.nil ?_
                refine RunQ.then_normal ?_
                refine Run.ret ?_
                refine RunQ.ret2 rfl rfl rfl ?_
                exact NeedRes.mk (l := []) (s := Sl.none) (by simp at hc6; simp [fdeep, *]) .nilSl (by simp)
end Go.Proofs.YtcckofgleghbgaaDoor
