/- Contracts: package row. -/
import Derived.Test.YtcckofgleghbgaaDoorFld
namespace Go.Proofs.YtcckofgleghbgaaDoor
open Go Sx
/-- One step of a number read from bytes. -/
def num (l : List UInt8) : UInt64 := l.foldl (fun n c => shlU n 8 ||| c.toUInt64) 0
theorem num_snoc (l : List UInt8) (k : Nat) (hk : k < l.length) : num (l.take (k + 1)) = shlU (num (l.take k)) 8 ||| l[k].toUInt64 := by
  rw [List.take_succ_eq_append_getElem hk, num, List.foldl_append]; rfl
theorem all_take_succ {α : Type} (p : α → Bool) (l : List α) (k : Nat) (hk : k < l.length) : (l.take (k + 1)).all p = ((l.take k).all p && p l[k]) := by
  rw [List.take_succ_eq_append_getElem hk, List.all_append]; simp
def allZero (l : List UInt8) : Bool := l.all (· == 0)
def widthOk (n : Int) : Bool := !(n == 0 || decide (n > 8) || decide (n < -64))
def rowRight (w : List Int) : Bool := decide (w.length ≤ 64) && w.all widthOk
set_option maxRecDepth 100000 in
theorem row_Right {h : GH} {s : Sl} {l : List Int} (hs : IsInts h s l) : Ctr Tryd.prog 113 [s.v].toArray h [] fun r _ _ => r = .bool (rowRight l) := by
  have hn := hs.n
  have hsm := hs.small
  refine Ctr.of_run Tryd.func113 rfl rfl rfl fun w0 => ?_
  refine Run.seq ?_
  refine Run.region' ?_
  refine RunL.pure rfl rfl (OpG.plain rfl (OpP.assign (Val.of rfl))) ?_
  refine RunL.nil ?_
  refine RunQ.then_normal ?_
  refine Run.seq ?_
  refine Run.seq ?_
  refine Run.region' ?_
  refine RunL.pure rfl rfl (OpG.plain rfl (OpP.move (Val.of rfl))) ?_
  refine RunL.pure rfl rfl (OpG.plain rfl (OpP.lenSl (Val.of rfl) inferInstance)) ?_
  refine RunL.pure rfl rfl (OpG.plain rfl (OpP.bin (Val.of rfl) (Val.of rfl) rfl)) ?_
  refine RunL.nil ?_
  refine RunQ.then_normal ?_
  refine Run.cond rfl (fun hc0 => ?_) (fun hc0 => ?_)
  · refine Run.seq ?_
    refine Run.region' ?_
    refine RunL.pure rfl rfl (OpG.plain rfl (OpP.assign (Val.of rfl))) ?_
    refine RunL.nil ?_
    refine RunQ.then_normal ?_
    refine Run.ret ?_
    refine RunQ.then_ret ?_
    refine RunQ.ret1 rfl rfl ?_
    have : rowRight l = false := by
      simp only [decide_eq_true_eq] at hc0
      unfold rowRight
      rw [Bool.and_eq_false_iff]
      left; simp; omega
    rw [this]
  · have h64 : l.length ≤ 64 := by simp only [decide_eq_false_iff_not] at hc0; omega
    refine Run.skip ?_
    refine RunQ.then_normal ?_
    refine Run.seq ?_
    refine Run.seq ?_
    refine Run.region' ?_
    refine RunL.pure rfl rfl (OpG.plain rfl (OpP.move (Val.of rfl))) ?_
    refine RunL.pure rfl rfl (OpG.plain rfl (OpP.lenSl (Val.of rfl) inferInstance)) ?_
    refine RunL.pure rfl rfl (OpG.plain rfl (OpP.move (Val.of rfl))) ?_
    refine RunL.nil ?_
    refine RunQ.then_normal ?_
    refine Run.block ?_
    refine Run.loopT (fun m E h' L' => ∃ k : Nat, k ≤ l.length ∧ m = l.length - k ∧ h' = h ∧ L' = [] ∧ rowRight (l.take k) = true ∧ E = [(8, s.v), (9, .int .i64 (s.n : Int)), (10, i64v (k : Int))]) l.length ⟨0, Nat.zero_le _, rfl, rfl, rfl, rfl, rfl⟩ ⟨rfl, rfl, rfl, trivial⟩ Take.whole ?_
    rintro m E1 h1 L1 ⟨k, hk, rfl, rfl, rfl, hz, rfl⟩
    refine Run.seq ?_
    refine Run.region' ?_
    refine RunL.pure rfl rfl (OpG.plain rfl (OpP.bin (Val.of rfl) (Val.of rfl) rfl)) ?_
    refine RunL.nil ?_
    refine RunQ.then_normal ?_
    refine Run.seq ?_
    refine Run.cond rfl (fun hc1 => ?_) (fun hc1 => ?_)
    · have hlt : k < l.length := by simp only [decide_eq_true_eq] at hc1; omega
      obtain ⟨b, o, c, rfl, hle, hcell⟩ := hs.at (by intro e; subst e; simp at hlt)
      have hx := hcell k hlt
      refine Run.skip ?_
      refine RunQ.then_normal ?_
      refine Run.seq ?_
      refine Run.block ?_
      refine Run.seq ?_
      refine Run.region' ?_
      refine RunL.pure rfl rfl (OpG.plain rfl (by first | exact OpP.indexSl (Val.of rfl) (Val.of rfl) (fun _ => by omega) inferInstance inferInstance | exact OpP.indexI (Val.of rfl) (Val.of rfl) (fun _ => by omega) (fun _ => by omega) inferInstance inferInstance)) ?_
      refine RunL.pure rfl rfl (OpG.plain rfl (by first | exact OpP.load1 (Val.of rfl) (fun _ => .own Take.head rfl) inferInstance | exact OpP.load1 (Val.of rfl) (fun _ => .own (Take.cons Take.head) rfl) inferInstance | exact OpP.load1 (Val.of rfl) (fun _ => .own (Take.cons (Take.cons Take.head)) rfl) inferInstance | exact OpP.load1 (Val.of rfl) (fun _ => .own (Take.cons (Take.cons (Take.cons Take.head))) rfl) inferInstance | exact OpP.load1 (Val.of rfl) (fun _ => .own (Take.cons (Take.cons (Take.cons (Take.cons Take.head)))) rfl) inferInstance | exact OpP.load1 (Val.of rfl) (fun _ => .own (Take.app Take.head) rfl) inferInstance | exact OpP.load1 (Val.of rfl) (fun _ => .own (Take.app (Take.cons Take.head)) rfl) inferInstance | exact OpP.load1 (Val.of rfl) (fun _ => .own (Take.cons (Take.app Take.head)) rfl) inferInstance | exact OpP.load1 (Val.of rfl) (fun _ => .own (Take.app (Take.cons (Take.cons Take.head))) rfl) inferInstance | exact OpP.load1 (Val.of rfl) (fun _ => .own (Take.cons (Take.app (Take.cons Take.head))) rfl) inferInstance | exact OpP.load1 (Val.of rfl) (fun _ => .own (Take.cons (Take.cons (Take.app Take.head))) rfl) inferInstance | exact OpP.load1 (Val.of rfl) (fun _ => .own (Take.app (Take.cons (Take.cons (Take.cons Take.head)))) rfl) inferInstance | exact OpP.load1 (Val.of rfl) (fun _ => .own (Take.cons (Take.app (Take.cons (Take.cons Take.head)))) rfl) inferInstance | exact OpP.load1 (Val.of rfl) (fun _ => .own (Take.cons (Take.cons (Take.app (Take.cons Take.head)))) rfl) inferInstance | exact OpP.load1 (Val.of rfl) (fun _ => .own (Take.cons (Take.cons (Take.cons (Take.app Take.head)))) rfl) inferInstance | exact OpP.load1 (Val.of rfl) (fun _ => .inl (by assumption)) inferInstance)) ?_
      refine RunL.pure rfl rfl (OpG.plain rfl (OpP.assign (Val.of rfl))) ?_
      refine RunL.nil ?_
      refine RunQ.then_normal ?_
      refine Run.seq ?_
      refine Run.region' ?_
      refine RunL.pure rfl rfl (OpG.plain rfl (OpP.move (Val.of rfl))) ?_
      refine RunL.pure rfl rfl (OpG.plain rfl (OpP.bin (Val.of rfl) (Val.of rfl) rfl)) ?_
      refine RunL.pure rfl rfl (OpG.plain rfl (OpP.move (Val.of rfl))) ?_
      refine RunL.pure rfl rfl (OpG.onF rfl rfl rfl (OpP.move (Val.of rfl))) ?_
      refine RunL.pure rfl rfl (OpG.onF rfl rfl rfl (OpP.bin (Val.lz rfl) (Val.of rfl) rfl)) ?_
      refine RunL.pure rfl rfl (OpG.plain rfl (OpP.pick_or rfl rfl rfl)) ?_
      refine RunL.pure rfl rfl (OpG.plain rfl (OpP.move (Val.of rfl))) ?_
      refine RunL.pure rfl rfl (OpG.onF rfl rfl rfl (OpP.move (Val.of rfl))) ?_
      refine RunL.pure rfl rfl (OpG.onF rfl rfl rfl (OpP.bin (Val.lz rfl) (Val.of rfl) rfl)) ?_
      refine RunL.pure rfl rfl (OpG.plain rfl (OpP.pick_or rfl rfl rfl)) ?_
      refine RunL.nil ?_
      refine RunQ.then_normal ?_
      refine Run.cond rfl (fun hc2 => ?_) (fun hc2 => ?_)
      · refine Run.seq ?_
        refine Run.region' ?_
        refine RunL.pure rfl rfl (OpG.plain rfl (OpP.assign (Val.of rfl))) ?_
        refine RunL.nil ?_
        refine RunQ.then_normal ?_
        refine Run.ret ?_
        refine RunQ.block_ret ?_
        refine RunQ.then_ret ?_
        refine RunQ.then_ret ?_
        refine RunQ.block_ret ?_
        refine RunQ.then_ret ?_
        refine RunQ.ret1 rfl rfl ?_
        have : rowRight l = false := by
          unfold rowRight
          rw [Bool.and_eq_false_iff]
          right
          rw [List.all_eq_false]
          exact ⟨l[k], List.getElem_mem hlt, by rw [widthOk, hc2]; simp⟩
        rw [this]
      · refine Run.skip ?_
        refine RunQ.block_normal ?_
        refine RunQ.then_normal ?_
        refine Run.region' ?_
        refine RunL.pure rfl rfl (OpG.plain rfl (by first | exact OpP.add64 (Val.of rfl) (Val.of rfl) (by omega) (by omega) | exact OpP.bin (Val.of rfl) (Val.of rfl) rfl)) ?_
        refine RunL.pure rfl rfl (OpG.plain rfl (OpP.move (Val.of rfl))) ?_
        refine RunL.nil ?_
        exact RunQ.againT (l.length - (k + 1)) (by omega) ⟨k + 1, by omega, rfl, rfl, rfl, by
          unfold rowRight at hz ⊢
          simp only [Bool.and_eq_true] at hz ⊢
          refine ⟨by simp; omega, ?_⟩
          rw [all_take_succ _ _ _ hlt, hz.2, Bool.true_and, widthOk, hc2]; rfl, rfl⟩ ⟨rfl, rfl, rfl, trivial⟩ Take.whole
    · have hge : k = l.length := by simp only [decide_eq_false_iff_not] at hc1; omega
      refine Run.exit ?_
      refine RunQ.then_exit ?_
      refine RunQ.then_exit ?_
      refine RunQ.block_exit ?_
      refine RunQ.then_normal ?_
      refine Run.seq ?_
      refine Run.region' ?_
      refine RunL.pure rfl rfl (OpG.plain rfl (OpP.assign (Val.of rfl))) ?_
      refine RunL.nil ?_
      refine RunQ.then_normal ?_
      refine Run.ret ?_
      refine RunQ.ret1 rfl rfl ?_
      rw [hge, List.take_length] at hz; rw [hz]
theorem rowRight_len {l : List Int} (hr : rowRight l = true) : l.length ≤ 64 := by unfold rowRight at hr; simp only [Bool.and_eq_true] at hr; simpa using hr.1
theorem rowRight_get {l : List Int} (hr : rowRight l = true) {n : Int} (hn : n ∈ l) : n ≠ 0 ∧ n ≤ 8 ∧ -64 ≤ n := by
  unfold rowRight at hr
  simp only [Bool.and_eq_true] at hr
  have := List.all_eq_true.1 hr.2 n hn
  simp [widthOk] at this
  omega
def rsum (l : List Int) : Int := (l.map fun n => max n (-n)).sum
def rcnt (l : List Int) : Int := ((l.filter fun n => decide (n > 0)).length : Int)
def rowSize (l : List Int) : Int := if rowRight l then rsum l else 0
def rowCount (l : List Int) : Int := if rowRight l then rcnt l else 0
theorem rsum_snoc (l : List Int) (k : Nat) (hk : k < l.length) : rsum (l.take (k + 1)) = rsum (l.take k) + max l[k] (-l[k]) := by
  unfold rsum
  rw [List.take_succ_eq_append_getElem hk, List.map_append, List.sum_append]; simp
theorem rcnt_snoc (l : List Int) (k : Nat) (hk : k < l.length) : rcnt (l.take (k + 1)) = rcnt (l.take k) + if l[k] > 0 then 1 else 0 := by
  unfold rcnt
  rw [List.take_succ_eq_append_getElem hk, List.filter_append]
  by_cases h : l[k] > 0 <;> simp [h]
theorem rsum_le {l : List Int} (hr : rowRight l = true) (k : Nat) : 0 ≤ rsum (l.take k) ∧ rsum (l.take k) ≤ 64 * (k : Int) := by
  induction k with
  | zero => simp [rsum]
  | succ k ih =>
    rcases Nat.lt_or_ge k l.length with h | h
    · rw [rsum_snoc l k h]
      have := rowRight_get hr (List.getElem_mem h)
      omega
    · rw [List.take_of_length_le (by omega)]
      rw [List.take_of_length_le h] at ih
      omega
theorem rcnt_le (l : List Int) (k : Nat) : 0 ≤ rcnt (l.take k) ∧ rcnt (l.take k) ≤ (k : Int) := by
  unfold rcnt
  have h1 := List.length_filter_le (fun n : Int => decide (n > 0)) (l.take k)
  have h2 : (l.take k).length ≤ k := by simp; omega
  omega
set_option maxRecDepth 100000 in
theorem row_Size {h : GH} {s : Sl} {l : List Int} (hs : IsInts h s l) : Ctr Tryd.prog 114 [s.v].toArray h [] fun r _ _ => r = i64v (rowSize l) := by
  have hn := hs.n
  have hsm := hs.small
  refine Ctr.of_run Tryd.func114 rfl rfl rfl fun w0 => ?_
  refine Run.seq ?_
  refine Run.region' ?_
  refine RunL.pure rfl rfl (OpG.plain rfl (OpP.assign (Val.of rfl))) ?_
  refine RunL.nil ?_
  refine RunQ.then_normal ?_
  refine Run.seq ?_
  refine Run.seq ?_
  refine Run.region' ?_
  refine RunL.pure rfl rfl (OpG.plain rfl (OpP.move (Val.of rfl))) ?_
  refine RunL.pure rfl rfl (OpG.plain rfl (OpP.call (by kernel_rfl) (.cons (Val.of rfl) .nil) (fun hA => by first | (have hct := row_Right hs; exact hct) | exact row_Right hs))) ?_
  refine RunL.pure rfl rfl (OpG.plain rfl (OpP.not (Val.of rfl))) ?_
  refine RunL.nil ?_
  refine RunQ.then_normal ?_
  refine Run.cond rfl (fun hc0 => ?_) (fun hc0 => ?_)
  · refine Run.seq ?_
    refine Run.region' ?_
    refine RunL.pure rfl rfl (OpG.plain rfl (OpP.assign (Val.of rfl))) ?_
    refine RunL.nil ?_
    refine RunQ.then_normal ?_
    refine Run.ret ?_
    refine RunQ.then_ret ?_
    refine RunQ.ret1 rfl rfl ?_
    have hr : rowRight l = false := by simpa using hc0
    simp [rowSize, hr]
  · have hr : rowRight l = true := by simpa using hc0
    have hlen := rowRight_len hr
    refine Run.skip ?_
    refine RunQ.then_normal ?_
    refine Run.seq ?_
    refine Run.seq ?_
    refine Run.region' ?_
    refine RunL.pure rfl rfl (OpG.plain rfl (OpP.move (Val.of rfl))) ?_
    refine RunL.pure rfl rfl (OpG.plain rfl (OpP.lenSl (Val.of rfl) inferInstance)) ?_
    refine RunL.pure rfl rfl (OpG.plain rfl (OpP.move (Val.of rfl))) ?_
    refine RunL.nil ?_
    refine RunQ.then_normal ?_
    refine Run.block ?_
    refine Run.loopT (fun m E h' L' => ∃ k : Nat, k ≤ l.length ∧ m = l.length - k ∧ h' = h ∧ L' = [] ∧ E = [(8, s.v), (9, .int .i64 (s.n : Int)), (10, i64v (k : Int)), (2, i64v (rsum (l.take k)))]) l.length ⟨0, Nat.zero_le _, rfl, rfl, rfl, rfl⟩ ⟨rfl, rfl, rfl, rfl, trivial⟩ Take.whole ?_
    rintro m E1 h1 L1 ⟨k, hk, rfl, rfl, rfl, rfl⟩
    refine Run.seq ?_
    refine Run.region' ?_
    refine RunL.pure rfl rfl (OpG.plain rfl (OpP.bin (Val.of rfl) (Val.of rfl) rfl)) ?_
    refine RunL.nil ?_
    refine RunQ.then_normal ?_
    refine Run.seq ?_
    refine Run.cond rfl (fun hc1 => ?_) (fun hc1 => ?_)
    · have hlt : k < l.length := by simp only [decide_eq_true_eq] at hc1; omega
      obtain ⟨b, o, c, rfl, hle, hcell⟩ := hs.at (by intro e; subst e; simp at hlt)
      have hx := hcell k hlt
      have hg := rowRight_get hr (List.getElem_mem hlt)
      have hsn := rsum_snoc l k hlt
      have hb := rsum_le hr k
      refine Run.skip ?_
      refine RunQ.then_normal ?_
      refine Run.seq ?_
      refine Run.block ?_
      refine Run.seq ?_
      refine Run.region' ?_
      refine RunL.pure rfl rfl (OpG.plain rfl (by first | exact OpP.indexSl (Val.of rfl) (Val.of rfl) (fun _ => by omega) inferInstance inferInstance | exact OpP.indexI (Val.of rfl) (Val.of rfl) (fun _ => by omega) (fun _ => by omega) inferInstance inferInstance)) ?_
      refine RunL.pure rfl rfl (OpG.plain rfl (by first | exact OpP.load1 (Val.of rfl) (fun _ => .own Take.head rfl) inferInstance | exact OpP.load1 (Val.of rfl) (fun _ => .own (Take.cons Take.head) rfl) inferInstance | exact OpP.load1 (Val.of rfl) (fun _ => .own (Take.cons (Take.cons Take.head)) rfl) inferInstance | exact OpP.load1 (Val.of rfl) (fun _ => .own (Take.cons (Take.cons (Take.cons Take.head))) rfl) inferInstance | exact OpP.load1 (Val.of rfl) (fun _ => .own (Take.cons (Take.cons (Take.cons (Take.cons Take.head)))) rfl) inferInstance | exact OpP.load1 (Val.of rfl) (fun _ => .own (Take.app Take.head) rfl) inferInstance | exact OpP.load1 (Val.of rfl) (fun _ => .own (Take.app (Take.cons Take.head)) rfl) inferInstance | exact OpP.load1 (Val.of rfl) (fun _ => .own (Take.cons (Take.app Take.head)) rfl) inferInstance | exact OpP.load1 (Val.of rfl) (fun _ => .own (Take.app (Take.cons (Take.cons Take.head))) rfl) inferInstance | exact OpP.load1 (Val.of rfl) (fun _ => .own (Take.cons (Take.app (Take.cons Take.head))) rfl) inferInstance | exact OpP.load1 (Val.of rfl) (fun _ => .own (Take.cons (Take.cons (Take.app Take.head))) rfl) inferInstance | exact OpP.load1 (Val.of rfl) (fun _ => .own (Take.app (Take.cons (Take.cons (Take.cons Take.head)))) rfl) inferInstance | exact OpP.load1 (Val.of rfl) (fun _ => .own (Take.cons (Take.app (Take.cons (Take.cons Take.head)))) rfl) inferInstance | exact OpP.load1 (Val.of rfl) (fun _ => .own (Take.cons (Take.cons (Take.app (Take.cons Take.head)))) rfl) inferInstance | exact OpP.load1 (Val.of rfl) (fun _ => .own (Take.cons (Take.cons (Take.cons (Take.app Take.head)))) rfl) inferInstance | exact OpP.load1 (Val.of rfl) (fun _ => .inl (by assumption)) inferInstance)) ?_
      refine RunL.pure rfl rfl (OpG.plain rfl (OpP.assign (Val.of rfl))) ?_
      refine RunL.nil ?_
      refine RunQ.then_normal ?_
      refine Run.region' ?_
      refine RunL.pure rfl rfl (OpG.plain rfl (OpP.move (Val.of rfl))) ?_
      refine RunL.pure rfl rfl (OpG.plain rfl (OpP.move (Val.of rfl))) ?_
      refine RunL.pure rfl rfl (OpG.plain rfl (OpP.move (Val.of rfl))) ?_
      refine RunL.pure rfl rfl (OpG.plain rfl (by first | exact OpP.neg64 (Val.of rfl) (by omega) (by omega) | exact OpP.neg (Val.of rfl))) ?_
      refine RunL.pure rfl rfl (OpG.plain rfl (OpP.max2 (Val.of rfl) (Val.of rfl))) ?_
      refine RunL.pure rfl rfl (OpG.plain rfl (by first | exact OpP.add64 (Val.of rfl) (Val.of rfl) (by omega) (by omega) | exact OpP.bin (Val.of rfl) (Val.of rfl) rfl)) ?_
      refine RunL.pure rfl rfl (OpG.plain rfl (OpP.assign (Val.of rfl))) ?_
      refine RunL.nil ?_
      refine RunQ.block_normal ?_
      refine RunQ.then_normal ?_
      refine Run.region' ?_
      refine RunL.pure rfl rfl (OpG.plain rfl (by first | exact OpP.add64 (Val.of rfl) (Val.of rfl) (by omega) (by omega) | exact OpP.bin (Val.of rfl) (Val.of rfl) rfl)) ?_
      refine RunL.pure rfl rfl (OpG.plain rfl (OpP.move (Val.of rfl))) ?_
      refine RunL.nil ?_
      exact RunQ.againT (l.length - (k + 1)) (by omega) ⟨k + 1, by omega, rfl, rfl, rfl, rfl⟩ ⟨rfl, rfl, rfl, by rw [hsn]; rfl, trivial⟩ Take.whole
    · have hge : k = l.length := by simp only [decide_eq_false_iff_not] at hc1; omega
      refine Run.exit ?_
      refine RunQ.then_exit ?_
      refine RunQ.then_exit ?_
      refine RunQ.block_exit ?_
      refine RunQ.then_normal ?_
      refine Run.seq ?_
      refine Run.region' ?_
      refine RunL.pure rfl rfl (OpG.plain rfl (OpP.move (Val.of rfl))) ?_
      refine RunL.pure rfl rfl (OpG.plain rfl (OpP.assign (Val.of rfl))) ?_
      refine RunL.nil ?_
      refine RunQ.then_normal ?_
      refine Run.ret ?_
      refine RunQ.ret1 rfl rfl ?_
      rw [hge, List.take_length]; simp [rowSize, hr]
set_option maxRecDepth 100000 in
theorem row_Count {h : GH} {s : Sl} {l : List Int} (hs : IsInts h s l) : Ctr Tryd.prog 96 [s.v].toArray h [] fun r _ _ => r = i64v (rowCount l) := by
  have hn := hs.n
  have hsm := hs.small
  refine Ctr.of_run Tryd.func96 rfl rfl rfl fun w0 => ?_
  refine Run.seq ?_
  refine Run.region' ?_
  refine RunL.pure rfl rfl (OpG.plain rfl (OpP.assign (Val.of rfl))) ?_
  refine RunL.nil ?_
  refine RunQ.then_normal ?_
  refine Run.seq ?_
  refine Run.seq ?_
  refine Run.region' ?_
  refine RunL.pure rfl rfl (OpG.plain rfl (OpP.move (Val.of rfl))) ?_
  refine RunL.pure rfl rfl (OpG.plain rfl (OpP.call (by kernel_rfl) (.cons (Val.of rfl) .nil) (fun hA => by first | (have hct := row_Right hs; exact hct) | exact row_Right hs))) ?_
  refine RunL.pure rfl rfl (OpG.plain rfl (OpP.not (Val.of rfl))) ?_
  refine RunL.nil ?_
  refine RunQ.then_normal ?_
  refine Run.cond rfl (fun hc0 => ?_) (fun hc0 => ?_)
  · refine Run.seq ?_
    refine Run.region' ?_
    refine RunL.pure rfl rfl (OpG.plain rfl (OpP.assign (Val.of rfl))) ?_
    refine RunL.nil ?_
    refine RunQ.then_normal ?_
    refine Run.ret ?_
    refine RunQ.then_ret ?_
    refine RunQ.ret1 rfl rfl ?_
    have hr : rowRight l = false := by simpa using hc0
    simp [rowCount, hr]
  · have hr : rowRight l = true := by simpa using hc0
    have hlen := rowRight_len hr
    refine Run.skip ?_
    refine RunQ.then_normal ?_
    refine Run.seq ?_
    refine Run.seq ?_
    refine Run.region' ?_
    refine RunL.pure rfl rfl (OpG.plain rfl (OpP.move (Val.of rfl))) ?_
    refine RunL.pure rfl rfl (OpG.plain rfl (OpP.lenSl (Val.of rfl) inferInstance)) ?_
    refine RunL.pure rfl rfl (OpG.plain rfl (OpP.move (Val.of rfl))) ?_
    refine RunL.nil ?_
    refine RunQ.then_normal ?_
    refine Run.block ?_
    refine Run.loopT (fun m E h' L' => ∃ k : Nat, k ≤ l.length ∧ m = l.length - k ∧ h' = h ∧ L' = [] ∧ E = [(8, s.v), (9, .int .i64 (s.n : Int)), (10, i64v (k : Int)), (2, i64v (rcnt (l.take k)))]) l.length ⟨0, Nat.zero_le _, rfl, rfl, rfl, rfl⟩ ⟨rfl, rfl, rfl, rfl, trivial⟩ Take.whole ?_
    rintro m E1 h1 L1 ⟨k, hk, rfl, rfl, rfl, rfl⟩
    refine Run.seq ?_
    refine Run.region' ?_
    refine RunL.pure rfl rfl (OpG.plain rfl (OpP.bin (Val.of rfl) (Val.of rfl) rfl)) ?_
    refine RunL.nil ?_
    refine RunQ.then_normal ?_
    refine Run.seq ?_
    refine Run.cond rfl (fun hc1 => ?_) (fun hc1 => ?_)
    · have hlt : k < l.length := by simp only [decide_eq_true_eq] at hc1; omega
      obtain ⟨b, o, c, rfl, hle, hcell⟩ := hs.at (by intro e; subst e; simp at hlt)
      have hx := hcell k hlt
      have hsn := rcnt_snoc l k hlt
      have hb := rcnt_le l k
      refine Run.skip ?_
      refine RunQ.then_normal ?_
      refine Run.seq ?_
      refine Run.block ?_
      refine Run.seq ?_
      refine Run.region' ?_
      refine RunL.pure rfl rfl (OpG.plain rfl (by first | exact OpP.indexSl (Val.of rfl) (Val.of rfl) (fun _ => by omega) inferInstance inferInstance | exact OpP.indexI (Val.of rfl) (Val.of rfl) (fun _ => by omega) (fun _ => by omega) inferInstance inferInstance)) ?_
      refine RunL.pure rfl rfl (OpG.plain rfl (by first | exact OpP.load1 (Val.of rfl) (fun _ => .own Take.head rfl) inferInstance | exact OpP.load1 (Val.of rfl) (fun _ => .own (Take.cons Take.head) rfl) inferInstance | exact OpP.load1 (Val.of rfl) (fun _ => .own (Take.cons (Take.cons Take.head)) rfl) inferInstance | exact OpP.load1 (Val.of rfl) (fun _ => .own (Take.cons (Take.cons (Take.cons Take.head))) rfl) inferInstance | exact OpP.load1 (Val.of rfl) (fun _ => .own (Take.cons (Take.cons (Take.cons (Take.cons Take.head)))) rfl) inferInstance | exact OpP.load1 (Val.of rfl) (fun _ => .own (Take.app Take.head) rfl) inferInstance | exact OpP.load1 (Val.of rfl) (fun _ => .own (Take.app (Take.cons Take.head)) rfl) inferInstance | exact OpP.load1 (Val.of rfl) (fun _ => .own (Take.cons (Take.app Take.head)) rfl) inferInstance | exact OpP.load1 (Val.of rfl) (fun _ => .own (Take.app (Take.cons (Take.cons Take.head))) rfl) inferInstance | exact OpP.load1 (Val.of rfl) (fun _ => .own (Take.cons (Take.app (Take.cons Take.head))) rfl) inferInstance | exact OpP.load1 (Val.of rfl) (fun _ => .own (Take.cons (Take.cons (Take.app Take.head))) rfl) inferInstance | exact OpP.load1 (Val.of rfl) (fun _ => .own (Take.app (Take.cons (Take.cons (Take.cons Take.head)))) rfl) inferInstance | exact OpP.load1 (Val.of rfl) (fun _ => .own (Take.cons (Take.app (Take.cons (Take.cons Take.head)))) rfl) inferInstance | exact OpP.load1 (Val.of rfl) (fun _ => .own (Take.cons (Take.cons (Take.app (Take.cons Take.head)))) rfl) inferInstance | exact OpP.load1 (Val.of rfl) (fun _ => .own (Take.cons (Take.cons (Take.cons (Take.app Take.head)))) rfl) inferInstance | exact OpP.load1 (Val.of rfl) (fun _ => .inl (by assumption)) inferInstance)) ?_
      refine RunL.pure rfl rfl (OpG.plain rfl (OpP.assign (Val.of rfl))) ?_
      refine RunL.nil ?_
      refine RunQ.then_normal ?_
      refine Run.seq ?_
      refine Run.region' ?_
      refine RunL.pure rfl rfl (OpG.plain rfl (OpP.move (Val.of rfl))) ?_
      refine RunL.pure rfl rfl (OpG.plain rfl (OpP.bin (Val.of rfl) (Val.of rfl) rfl)) ?_
      refine RunL.nil ?_
      refine RunQ.then_normal ?_
      refine Run.cond rfl (fun hc2 => ?_) (fun hc2 => ?_)
      · refine Run.region' ?_
        refine RunL.pure rfl rfl (OpG.plain rfl (OpP.move (Val.of rfl))) ?_
        refine RunL.pure rfl rfl (OpG.plain rfl (by first | exact OpP.add64 (Val.of rfl) (Val.of rfl) (by omega) (by omega) | exact OpP.bin (Val.of rfl) (Val.of rfl) rfl)) ?_
        refine RunL.pure rfl rfl (OpG.plain rfl (OpP.assign (Val.of rfl))) ?_
        refine RunL.nil ?_
        refine RunQ.block_normal ?_
        refine RunQ.then_normal ?_
        refine Run.region' ?_
        refine RunL.pure rfl rfl (OpG.plain rfl (by first | exact OpP.add64 (Val.of rfl) (Val.of rfl) (by omega) (by omega) | exact OpP.bin (Val.of rfl) (Val.of rfl) rfl)) ?_
        refine RunL.pure rfl rfl (OpG.plain rfl (OpP.move (Val.of rfl))) ?_
        refine RunL.nil ?_
        exact RunQ.againT (l.length - (k + 1)) (by omega) ⟨k + 1, by omega, rfl, rfl, rfl, rfl⟩ ⟨rfl, rfl, rfl, by rw [hsn, if_pos (by simpa using hc2)]; rfl, trivial⟩ Take.whole
      · refine Run.skip ?_
        refine RunQ.block_normal ?_
        refine RunQ.then_normal ?_
        refine Run.region' ?_
        refine RunL.pure rfl rfl (OpG.plain rfl (by first | exact OpP.add64 (Val.of rfl) (Val.of rfl) (by omega) (by omega) | exact OpP.bin (Val.of rfl) (Val.of rfl) rfl)) ?_
        refine RunL.pure rfl rfl (OpG.plain rfl (OpP.move (Val.of rfl))) ?_
        refine RunL.nil ?_
        exact RunQ.againT (l.length - (k + 1)) (by omega) ⟨k + 1, by omega, rfl, rfl, rfl, rfl⟩ ⟨rfl, rfl, rfl, by rw [hsn, if_neg (by simpa using hc2), Int.add_zero]; rfl, trivial⟩ Take.whole
    · have hge : k = l.length := by simp only [decide_eq_false_iff_not] at hc1; omega
      refine Run.exit ?_
      refine RunQ.then_exit ?_
      refine RunQ.then_exit ?_
      refine RunQ.block_exit ?_
      refine RunQ.then_normal ?_
      refine Run.seq ?_
      refine Run.region' ?_
      refine RunL.pure rfl rfl (OpG.plain rfl (OpP.move (Val.of rfl))) ?_
      refine RunL.pure rfl rfl (OpG.plain rfl (OpP.assign (Val.of rfl))) ?_
      refine RunL.nil ?_
      refine RunQ.then_normal ?_
      refine Run.ret ?_
      refine RunQ.ret1 rfl rfl ?_
      rw [hge, List.take_length]; simp [rowCount, hr]
/-- The bytes of a number, so many. -/
def putB (n : UInt64) (w : Nat) : List UInt8 := (List.range w).map fun i => (shrU n (8 * (w - 1 - i))).toUInt8
theorem putB_length (n : UInt64) (w : Nat) : (putB n w).length = w := by simp [putB]
theorem putB_get (n : UInt64) (w k : Nat) (hk : k < w) : (putB n w)[k]'(by rw [putB_length]; exact hk) = (shrU n (8 * (w - 1 - k))).toUInt8 := by simp [putB]
theorem putB_snoc (n : UInt64) (w k : Nat) (hk : k < w) : (putB n w).take (k + 1) = (putB n w).take k ++ [(shrU n (8 * (w - 1 - k))).toUInt8] := by
  rw [List.take_succ_eq_append_getElem (by rw [putB_length]; exact hk), putB_get n w k hk]
abbrev OwnB (s : Sl) (xs : List UInt8) (N : Own) : Prop := OwnSl 5 1 s (xs.map u8v) N
theorem OwnB.n {s : Sl} {xs : List UInt8} {N : Own} (ho : OwnB s xs N) : s.n = xs.length := by have := OwnSl.length ho; simp at this; omega
set_option maxRecDepth 100000 in
theorem row_put {h : GH} {s : Sl} {xs : List UInt8} {N : Own} {n : UInt64} {w : Nat} (ho : OwnB s xs N) (hw : w ≤ 64) (hsz : xs.length + 64 ≤ 140737488355328) :
    Ctr Tryd.prog 115 [s.v, u64v n, i64v (w : Int)].toArray h N fun r h' N' => h' = h ∧ ∃ s' : Sl, r = s'.v ∧ OwnB s' (xs ++ putB n w) N' := by
  refine Ctr.of_run Tryd.func115 rfl rfl rfl fun w0 => ?_
  refine Run.seq ?_
  refine Run.region' ?_
  refine RunL.pure rfl rfl (OpG.plain rfl (OpP.assign (Val.of rfl))) ?_
  refine RunL.nil ?_
  refine RunQ.then_normal ?_
  refine Run.seq ?_
  refine Run.seq ?_
  refine Run.region' ?_
  refine RunL.pure rfl rfl (OpG.plain rfl (OpP.move (Val.of rfl))) ?_
  refine RunL.pure rfl rfl (OpG.plain rfl (OpP.move (Val.of rfl))) ?_
  refine RunL.nil ?_
  refine RunQ.then_normal ?_
  refine Run.block ?_
  refine Run.loopT (fun m E h' L' => ∃ (k : Nat) (s' : Sl), k ≤ w ∧ m = w - k ∧ h' = h ∧ OwnB s' (xs ++ (putB n w).take k) L' ∧ E = [(0, s'.v), (1, u64v n), (2, i64v (w : Int)), (8, i64v (w : Int)), (9, i64v (k : Int))]) w ⟨0, s, Nat.zero_le _, rfl, rfl, by simpa using ho, rfl⟩ ⟨rfl, rfl, rfl, rfl, rfl, trivial⟩ Take.whole ?_
  rintro m E1 h1 L1 ⟨k, s', hk, rfl, rfl, ho', rfl⟩
  refine Run.seq ?_
  refine Run.region' ?_
  refine RunL.pure rfl rfl (OpG.plain rfl (OpP.bin (Val.of rfl) (Val.of rfl) rfl)) ?_
  refine RunL.nil ?_
  refine RunQ.then_normal ?_
  refine Run.seq ?_
  refine Run.cond rfl (fun hc0 => ?_) (fun hc0 => ?_)
  · have hlt : k < w := by simpa using hc0
    have hsn := putB_snoc n w k hlt
    have hlen := ho'.n
    simp only [List.length_append, List.length_take, putB_length] at hlen
    have hsh : (8 * ((w : Int) - 1 - (k : Int))).toNat = 8 * (w - 1 - k) := by omega
    refine Run.skip ?_
    refine RunQ.then_normal ?_
    refine Run.seq ?_
    refine Run.block ?_
    refine Run.seq ?_
    refine Run.region' ?_
    refine RunL.pure rfl rfl (OpG.plain rfl (OpP.move (Val.of rfl))) ?_
    refine RunL.pure rfl rfl (OpG.plain rfl (OpP.assign (Val.of rfl))) ?_
    refine RunL.nil ?_
    refine RunQ.then_normal ?_
    refine Run.region' ?_
    refine RunL.pure rfl rfl (OpG.plain rfl (OpP.move (Val.of rfl))) ?_
    refine RunL.pure rfl rfl (OpG.plain rfl (OpP.move (Val.of rfl))) ?_
    refine RunL.pure rfl rfl (OpG.plain rfl (OpP.move (Val.of rfl))) ?_
    refine RunL.pure rfl rfl (OpG.plain rfl (by first | exact OpP.sub64 (Val.of rfl) (Val.of rfl) (by omega) (by omega) | exact OpP.bin (Val.of rfl) (Val.of rfl) rfl)) ?_
    refine RunL.pure rfl rfl (OpG.plain rfl (OpP.move (Val.of rfl))) ?_
    refine RunL.pure rfl rfl (OpG.plain rfl (by first | exact OpP.sub64 (Val.of rfl) (Val.of rfl) (by omega) (by omega) | exact OpP.bin (Val.of rfl) (Val.of rfl) rfl)) ?_
    refine RunL.pure rfl rfl (OpG.plain rfl (by first | exact OpP.mul64 (Val.of rfl) (Val.of rfl) (by omega) (by omega) | exact OpP.bin (Val.of rfl) (Val.of rfl) rfl)) ?_
    refine RunL.pure rfl rfl (OpG.plain rfl (by first | exact OpP.shr_u64 (Val.of rfl) (Val.of rfl) (by first | decide | omega) | exact OpP.shr (Val.of rfl) (Val.of rfl) (by decide) | exact OpP.shr (Val.of rfl) (Val.of rfl) (by omega))) ?_
    refine RunL.pure rfl rfl (OpG.plain rfl (by first | exact OpP.conv_u64_u8 (Val.of rfl) inferInstance inferInstance | exact OpP.conv (Val.of rfl) inferInstance inferInstance)) ?_
    refine RunL.buildSlice inferInstance inferInstance inferInstance rfl rfl rfl rfl rfl rfl fun b1 => ?_
    refine RunL.append inferInstance inferInstance inferInstance inferInstance (s := s') (r := ⟨some ⟨b1, 0, none⟩, 1, 1⟩) rfl rfl rfl ho' (Take.cons Take.whole) (SrcAt.built (m := 1) (Take.app Take.head) rfl) (by intro u hu; simp at hu; subst hu; rfl) (by simp [maxLen]; omega) (by simp; omega) rfl rfl fun s2 N2 hn2 ho2 => ?_
    refine RunL.pure rfl rfl (OpG.plain rfl (OpP.assign (Val.of rfl))) ?_
    refine RunL.nil ?_
    refine RunQ.block_normal ?_
    refine RunQ.then_normal ?_
    refine Run.region' ?_
    refine RunL.pure rfl rfl (OpG.plain rfl (by first | exact OpP.add64 (Val.of rfl) (Val.of rfl) (by omega) (by omega) | exact OpP.bin (Val.of rfl) (Val.of rfl) rfl)) ?_
    refine RunL.pure rfl rfl (OpG.plain rfl (OpP.move (Val.of rfl))) ?_
    refine RunL.nil ?_
    refine RunQ.againT (w - (k + 1)) (by omega) ⟨k + 1, s2, by omega, rfl, rfl, ?_, rfl⟩ ⟨rfl, rfl, rfl, rfl, rfl, trivial⟩ Take.here
    rw [hsn, ← List.append_assoc]
    unfold OwnB
    rw [List.map_append]
    rw [hsh] at ho2
    exact ho2
  · have hge : k = w := by simp only [decide_eq_false_iff_not] at hc0; omega
    refine Run.exit ?_
    refine RunQ.then_exit ?_
    refine RunQ.then_exit ?_
    refine RunQ.block_exit ?_
    refine RunQ.then_normal ?_
    refine Run.seq ?_
    refine Run.region' ?_
    refine RunL.pure rfl rfl (OpG.plain rfl (OpP.move (Val.of rfl))) ?_
    refine RunL.pure rfl rfl (OpG.plain rfl (OpP.assign (Val.of rfl))) ?_
    refine RunL.nil ?_
    refine RunQ.then_normal ?_
    refine Run.ret ?_
    refine RunQ.ret1 rfl rfl ?_
    rw [hge, List.take_of_length_le (by rw [putB_length]; omega)] at ho'
    exact ⟨rfl, s', rfl, ho'⟩
end Go.Proofs.YtcckofgleghbgaaDoor
