/- Contracts: bytes.Equal, bytes.Trim; package oxm, what is read alone. -/
import Derived.Test.YtcckofgleghbgaaDoorFldb
namespace Go.Proofs.YtcckofgleghbgaaDoor
open Go Sx
set_option maxRecDepth 100000 in
theorem bytes_Equal {h : GH} {s s1 : Sl} {l l1 : List UInt8} (hs : IsBytes h s l) (hs1 : IsBytes h s1 l1) : Ctr Tryd.prog 128 [s.v, s1.v].toArray h [] fun r _ _ => r = .bool (l == l1) := by
  refine Ctr.of_run Tryd.func128 rfl rfl rfl fun w0 => ?_
  refine Run.seq ?_
  refine Run.region' ?_
  refine RunL.pure rfl rfl (OpG.plain rfl (OpP.assign (Val.of rfl))) ?_
  refine RunL.nil ?_
  refine RunQ.then_normal ?_
  refine Run.seq ?_
  refine Run.region' ?_
  refine RunL.pure rfl rfl (OpG.plain rfl (OpP.move (Val.of rfl))) ?_
  refine RunL.pure rfl rfl (OpG.plain rfl (OpP.bytesStr (Val.of rfl) (fun hA => hs.sl) inferInstance inferInstance inferInstance)) ?_
  refine RunL.pure rfl rfl (OpG.plain rfl (OpP.move (Val.of rfl))) ?_
  refine RunL.pure rfl rfl (OpG.plain rfl (OpP.bytesStr (Val.of rfl) (fun hA => hs1.sl) inferInstance inferInstance inferInstance)) ?_
  refine RunL.pure rfl rfl (OpG.plain rfl (OpP.eql_string (Val.of rfl) (Val.of rfl) inferInstance)) ?_
  refine RunL.pure rfl rfl (OpG.plain rfl (OpP.assign (Val.of rfl))) ?_
  refine RunL.nil ?_
  refine RunQ.then_normal ?_
  refine Run.ret ?_
  refine RunQ.ret1 rfl rfl ?_
  have : ((⟨l.toArray⟩ : ByteArray).toList == (⟨l1.toArray⟩ : ByteArray).toList) = (l == l1) := by rw [ByteArray.toList_eq, ByteArray.toList_eq]
  rw [this]
def trimL (c : UInt8) (l : List UInt8) : List UInt8 := l.dropWhile (· == c)
def trimR (c : UInt8) (l : List UInt8) : List UInt8 := (l.reverse.dropWhile (· == c)).reverse
theorem trimR_snoc (c : UInt8) (l : List UInt8) (k : Nat) (hk : k + 1 = l.length) : trimR c l = if l[k] == c then trimR c (l.take k) else l := by
  have h1 : l = l.take k ++ [l[k]] := by
    have := List.take_succ_eq_append_getElem (l := l) (i := k) (by omega)
    rw [hk, List.take_length] at this
    exact this
  conv => lhs; rw [h1]
  unfold trimR
  rw [List.reverse_append, List.reverse_singleton, List.singleton_append, List.dropWhile_cons]
  split
  · rfl
  · rw [List.reverse_cons, List.reverse_reverse, ← h1]
set_option maxHeartbeats 1000000 in
set_option maxRecDepth 100000 in
theorem bytes_trimRightByte {h : GH} {s : Sl} {l : List UInt8} {c : UInt8} (hs : IsBytes h s l) : Ctr Tryd.prog 119 [s.v, u8v c].toArray h [] fun r h' N => h' = h ∧ ∃ s' : Sl, r = s'.v ∧ IsBytes h s' (trimR c l) := by
  refine Ctr.of_run Tryd.func119 rfl rfl rfl fun w0 => ?_
  refine Run.seq ?_
  refine Run.region' ?_
  refine RunL.pure rfl rfl (OpG.plain rfl (OpP.assign (Val.of rfl))) ?_
  refine RunL.nil ?_
  refine RunQ.then_normal ?_
  refine Run.seq ?_
  refine Run.block ?_
  refine Run.loopT (fun m E h' L' => ∃ (s1 : Sl) (l1 : List UInt8), m = l1.length ∧ h' = h ∧ L' = [] ∧ IsBytes h s1 l1 ∧ trimR c l = trimR c l1 ∧ E = [(0, s1.v), (1, u8v c)]) l.length ⟨s, l, rfl, rfl, rfl, hs, rfl, rfl⟩ ⟨rfl, rfl, trivial⟩ Take.whole ?_
  rintro m E1 h1 L1 ⟨s1, l1, rfl, rfl, rfl, hs1, htr, rfl⟩
  have hn := hs1.n
  have hsm := hs1.small
  have hcle := hs1.sl.le
  obtain ⟨b, o, hp, hce⟩ := hs1.sl.spots
  have hat : 0 < s1.n → h1.cell b (o + ((s1.n : Int) - 1).toNat * 1) = some (u8v (l1.getD (l1.length - 1) 0)) := fun h0 => by
    have e1 : ((s1.n : Int) - 1).toNat * 1 = l1.length - 1 := by omega
    rw [e1]
    exact hce _ _ (by simp [List.getElem?_eq_getElem (show l1.length - 1 < l1.length by omega), List.getD])
  refine Run.seq ?_
  refine Run.seq ?_
  refine Run.region' ?_
  refine RunL.pure rfl rfl (OpG.plain rfl (OpP.move (Val.of rfl))) ?_
  refine RunL.pure rfl rfl (OpG.plain rfl (OpP.lenSl (Val.of rfl) inferInstance)) ?_
  refine RunL.pure rfl rfl (OpG.plain rfl (OpP.bin (Val.of rfl) (Val.of rfl) rfl)) ?_
  refine RunL.pure rfl rfl (OpG.plain rfl (OpP.move (Val.of rfl))) ?_
  refine RunL.pure rfl rfl (OpG.onT rfl rfl rfl (OpP.move (Val.of rfl))) ?_
  refine RunL.pure rfl rfl (OpG.onT rfl rfl rfl (OpP.move (Val.of rfl))) ?_
  refine RunL.pure rfl rfl (OpG.onT rfl rfl rfl (OpP.lenSl (Val.lz rfl) inferInstance)) ?_
  refine RunL.pure rfl rfl (OpG.onT rfl rfl rfl (by first | exact OpP.sub64 (Val.lz rfl) (Val.of rfl) (by omega) (by omega) | exact OpP.bin (Val.lz rfl) (Val.of rfl) rfl)) ?_
  refine RunL.pure rfl rfl (OpG.onT rfl rfl rfl (OpP.indexAtI (Val.lz rfl) (Val.lz rfl) (fun hA => hp (by simpa using hA)) (fun hA => by have : 0 < s1.n := (by simpa using hA); omega) inferInstance inferInstance)) ?_
  refine RunL.pure rfl rfl (OpG.onT rfl rfl rfl (OpP.load1 (Val.lz rfl) (fun hA => .inl (hat (by simpa using hA))) inferInstance)) ?_
  refine RunL.pure rfl rfl (OpG.onT rfl rfl rfl (OpP.move (Val.of rfl))) ?_
  refine RunL.pure rfl rfl (OpG.onT rfl rfl rfl (by first | exact OpP.eql_u8 (Val.lz rfl) (Val.lz rfl) | exact OpP.bin (Val.lz rfl) (Val.lz rfl) rfl)) ?_
  refine RunL.pure rfl rfl (OpG.plain rfl (OpP.pick_and rfl rfl rfl)) ?_
  refine RunL.nil ?_
  refine RunQ.then_normal ?_
  refine Run.cond rfl (fun hc0 => ?_) (fun hc0 => ?_)
  · have hc1 : 0 < s1.n ∧ l1.getD (l1.length - 1) 0 = c := by simpa [lzv] using hc0
    have hpos : 0 < l1.length := by omega
    rw [trimR_snoc c l1 (l1.length - 1) (by omega)] at htr
    have hgd : l1[l1.length - 1] = c := by have := hc1.2; simpa [List.getD, List.getElem?_eq_getElem (show l1.length - 1 < l1.length by omega)] using this
    rw [hgd, if_pos (by simp)] at htr
    have h5 : ((s1.n : Int) - 1).toNat = l1.length - 1 := by omega
    refine Run.skip ?_
    refine RunQ.then_normal ?_
    refine Run.block ?_
    refine Run.region' ?_
    refine RunL.pure rfl rfl (OpG.plain rfl (OpP.move (Val.of rfl))) ?_
    refine RunL.pure rfl rfl (OpG.plain rfl (OpP.move (Val.of rfl))) ?_
    refine RunL.pure rfl rfl (OpG.plain rfl (OpP.lenSl (Val.of rfl) inferInstance)) ?_
    refine RunL.pure rfl rfl (OpG.plain rfl (by first | exact OpP.sub64 (Val.of rfl) (Val.of rfl) (by omega) (by omega) | exact OpP.bin (Val.of rfl) (Val.of rfl) rfl)) ?_
    refine RunL.pure rfl rfl (OpG.plain rfl (by first | exact OpP.sliceHi (Val.of rfl) (Val.of rfl) (fun _ => by omega) inferInstance ⟨_, inferInstance⟩ | exact OpP.sliceHiI (Val.of rfl) (Val.of rfl) (fun _ => by omega) (fun _ => by omega) inferInstance ⟨_, inferInstance⟩)) ?_
    refine RunL.pure rfl rfl (OpG.plain rfl (OpP.assign (Val.of rfl))) ?_
    refine RunL.nil ?_
    refine RunQ.block_normal ?_
    exact RunQ.againT (l1.length - 1) (by omega) ⟨⟨s1.p, l1.length - 1, s1.c⟩, l1.take (l1.length - 1), by simp, rfl, rfl, hs1.take _ (by omega), htr, rfl⟩ ⟨by rw [← h5]; rfl, rfl, trivial⟩ Take.whole
  · have hc1 : ¬ (0 < s1.n ∧ l1.getD (l1.length - 1) 0 = c) := by simpa [lzv] using hc0
    refine Run.exit ?_
    refine RunQ.then_exit ?_
    refine RunQ.then_exit ?_
    refine RunQ.block_exit ?_
    refine RunQ.then_normal ?_
    refine Run.seq ?_
    refine Run.region' ?_
    refine RunL.pure rfl rfl (OpG.plain rfl (OpP.move (Val.of rfl))) ?_
    refine RunL.pure rfl rfl (OpG.plain rfl (OpP.assign (Val.of rfl))) ?_
    refine RunL.nil ?_
    refine RunQ.then_normal ?_
    refine Run.ret ?_
    refine RunQ.ret1 rfl rfl ?_
    refine ⟨rfl, s1, rfl, ?_⟩
    have : trimR c l1 = l1 := by
      by_cases h0 : 0 < l1.length
      · rw [trimR_snoc c l1 (l1.length - 1) (by omega), if_neg]
        intro he
        refine hc1 ⟨by omega, ?_⟩
        simpa [List.getD, List.getElem?_eq_getElem (show l1.length - 1 < l1.length by omega)] using he
      · have : l1 = [] := List.eq_nil_of_length_eq_zero (by omega)
        subst this; rfl
    rw [htr, this]; exact hs1
set_option maxHeartbeats 1000000 in
set_option maxRecDepth 100000 in
theorem bytes_trimLeftByte {h : GH} {s : Sl} {l : List UInt8} {c : UInt8} (hs : IsBytes h s l) : Ctr Tryd.prog 118 [s.v, u8v c].toArray h [] fun r h' N => h' = h ∧ ∃ s' : Sl, r = s'.v ∧ IsBytes h s' (trimL c l) := by
  refine Ctr.of_run Tryd.func118 rfl rfl rfl fun w0 => ?_
  refine Run.seq ?_
  refine Run.region' ?_
  refine RunL.pure rfl rfl (OpG.plain rfl (OpP.assign (Val.of rfl))) ?_
  refine RunL.nil ?_
  refine RunQ.then_normal ?_
  refine Run.seq ?_
  refine Run.block ?_
  refine Run.loopT (fun m E h' L' => ∃ (s1 : Sl) (l1 : List UInt8), m = l1.length ∧ h' = h ∧ L' = [] ∧ IsBytes h s1 l1 ∧ trimL c l = trimL c l1 ∧ E = [(0, s1.v), (1, u8v c)]) l.length ⟨s, l, rfl, rfl, rfl, hs, rfl, rfl⟩ ⟨rfl, rfl, trivial⟩ Take.whole ?_
  rintro m E1 h1 L1 ⟨s1, l1, rfl, rfl, rfl, hs1, htr, rfl⟩
  have hn := hs1.n
  have hsm := hs1.small
  have hcle := hs1.sl.le
  obtain ⟨b, o, hp, hce⟩ := hs1.sl.spots
  have hat : 0 < s1.n → h1.cell b (o + 0 * 1) = some (u8v (l1.headD 0)) := fun h0 => by
    cases l1 with
    | nil => simp at hn; omega
    | cons x l1 => exact hce 0 _ rfl
  refine Run.seq ?_
  refine Run.seq ?_
  refine Run.region' ?_
  refine RunL.pure rfl rfl (OpG.plain rfl (OpP.move (Val.of rfl))) ?_
  refine RunL.pure rfl rfl (OpG.plain rfl (OpP.lenSl (Val.of rfl) inferInstance)) ?_
  refine RunL.pure rfl rfl (OpG.plain rfl (OpP.bin (Val.of rfl) (Val.of rfl) rfl)) ?_
  refine RunL.pure rfl rfl (OpG.plain rfl (OpP.move (Val.of rfl))) ?_
  refine RunL.pure rfl rfl (OpG.onT rfl rfl rfl (OpP.move (Val.of rfl))) ?_
  refine RunL.pure rfl rfl (OpG.onT rfl rfl rfl (OpP.indexAt (i := 0) (Val.lz rfl) (Val.of rfl) (fun hA => hp (by simpa using hA)) (fun hA => by simpa using hA) inferInstance inferInstance)) ?_
  refine RunL.pure rfl rfl (OpG.onT rfl rfl rfl (OpP.load1 (Val.lz rfl) (fun hA => .inl (hat (by simpa using hA))) inferInstance)) ?_
  refine RunL.pure rfl rfl (OpG.onT rfl rfl rfl (OpP.move (Val.of rfl))) ?_
  refine RunL.pure rfl rfl (OpG.onT rfl rfl rfl (by first | exact OpP.eql_u8 (Val.lz rfl) (Val.lz rfl) | exact OpP.bin (Val.lz rfl) (Val.lz rfl) rfl)) ?_
  refine RunL.pure rfl rfl (OpG.plain rfl (OpP.pick_and rfl rfl rfl)) ?_
  refine RunL.nil ?_
  refine RunQ.then_normal ?_
  refine Run.cond rfl (fun hc0 => ?_) (fun hc0 => ?_)
  · have hc1 : 0 < s1.n ∧ l1.headD 0 = c := by simpa [lzv] using hc0
    obtain ⟨x, l2, rfl⟩ : ∃ x l2, l1 = x :: l2 := by
      cases l1 with
      | nil => simp at hn; omega
      | cons x l1 => exact ⟨x, l1, rfl⟩
    have hxc : x = c := hc1.2
    have htr1 : trimL c l = trimL c l2 := by rw [htr]; simp [trimL, hxc]
    refine Run.skip ?_
    refine RunQ.then_normal ?_
    refine Run.block ?_
    refine Run.region' ?_
    refine RunL.pure rfl rfl (OpG.plain rfl (OpP.move (Val.of rfl))) ?_
    refine RunL.pure rfl rfl (OpG.plain rfl (by first | exact OpP.sliceLo (i := 1) (Val.of rfl) (Val.of rfl) (fun _ => by omega) inferInstance inferInstance | exact OpP.sliceLoI (Val.of rfl) (Val.of rfl) (fun _ => by omega) (fun _ => by omega) inferInstance inferInstance)) ?_
    refine RunL.pure rfl rfl (OpG.plain rfl (OpP.assign (Val.of rfl))) ?_
    refine RunL.nil ?_
    refine RunQ.block_normal ?_
    have hd := hs1.drop 1 (by simp)
    exact RunQ.againT l2.length (by simp) ⟨_, l2, rfl, rfl, rfl, hd, htr1, rfl⟩ ⟨rfl, rfl, trivial⟩ Take.whole
  · have hc1 : ¬ (0 < s1.n ∧ l1.headD 0 = c) := by simpa [lzv] using hc0
    have hfin : trimL c l1 = l1 := by
      cases l1 with
      | nil => rfl
      | cons x l1 =>
        simp only [List.length_cons] at hn
        have hxc : ¬ x = c := fun e => hc1 ⟨by omega, e⟩
        simp [trimL, hxc]
    refine Run.exit ?_
    refine RunQ.then_exit ?_
    refine RunQ.then_exit ?_
    refine RunQ.block_exit ?_
    refine RunQ.then_normal ?_
    refine Run.seq ?_
    refine Run.seq ?_
    refine Run.region' ?_
    refine RunL.pure rfl rfl (OpG.plain rfl (OpP.move (Val.of rfl))) ?_
    refine RunL.pure rfl rfl (OpG.plain rfl (OpP.lenSl (Val.of rfl) inferInstance)) ?_
    refine RunL.pure rfl rfl (OpG.plain rfl (OpP.bin (Val.of rfl) (Val.of rfl) rfl)) ?_
    refine RunL.nil ?_
    refine RunQ.then_normal ?_
    refine Run.cond rfl (fun hc1 => ?_) (fun hc1 => ?_)
    · refine Run.seq ?_
      refine Run.region' ?_
      refine RunL.pure rfl rfl (OpG.plain rfl (OpP.assign (Val.of rfl))) ?_
      refine RunL.nil ?_
      refine RunQ.then_normal ?_
      refine Run.ret ?_
      refine RunQ.then_ret ?_
      refine RunQ.ret1 rfl rfl ?_
      refine ⟨rfl, Sl.none, rfl, ?_⟩
      have h0 : s1.n = 0 := by simpa using hc1
      have : l1 = [] := List.eq_nil_of_length_eq_zero (by omega)
      subst this
      rw [htr, hfin]; exact IsBytes.nilb
    · refine Run.skip ?_
      refine RunQ.then_normal ?_
      refine Run.seq ?_
      refine Run.region' ?_
      refine RunL.pure rfl rfl (OpG.plain rfl (OpP.move (Val.of rfl))) ?_
      refine RunL.pure rfl rfl (OpG.plain rfl (OpP.assign (Val.of rfl))) ?_
      refine RunL.nil ?_
      refine RunQ.then_normal ?_
      refine Run.ret ?_
      refine RunQ.ret1 rfl rfl ?_
      refine ⟨rfl, s1, rfl, ?_⟩
      rw [htr, hfin]; exact hs1
abbrev zeroStr : Value := .string ⟨#[0]⟩
set_option maxHeartbeats 1000000 in
set_option maxRecDepth 100000 in
theorem bytes_Trim {h : GH} {s : Sl} {l : List UInt8} (hs : IsBytes h s l) : Ctr Tryd.prog 104 [s.v, zeroStr].toArray h [] fun r h' N => h' = h ∧ ∃ s' : Sl, r = s'.v ∧ IsBytes h s' (trimL 0 (trimR 0 l)) := by
  have hn := hs.n
  refine Ctr.of_run Tryd.func104 rfl rfl rfl fun w0 => ?_
  refine Run.seq ?_
  refine Run.region' ?_
  refine RunL.pure rfl rfl (OpG.plain rfl (OpP.assign (Val.of rfl))) ?_
  refine RunL.nil ?_
  refine RunQ.then_normal ?_
  refine Run.seq ?_
  refine Run.seq ?_
  refine Run.region' ?_
  refine RunL.pure rfl rfl (OpG.plain rfl (OpP.move (Val.of rfl))) ?_
  refine RunL.pure rfl rfl (OpG.plain rfl (OpP.lenSl (Val.of rfl) inferInstance)) ?_
  refine RunL.pure rfl rfl (OpG.plain rfl (OpP.bin (Val.of rfl) (Val.of rfl) rfl)) ?_
  refine RunL.nil ?_
  refine RunQ.then_normal ?_
  refine Run.cond rfl (fun hc0 => ?_) (fun hc0 => ?_)
  · refine Run.seq ?_
    refine Run.region' ?_
    refine RunL.pure rfl rfl (OpG.plain rfl (OpP.assign (Val.of rfl))) ?_
    refine RunL.nil ?_
    refine RunQ.then_normal ?_
    refine Run.ret ?_
    refine RunQ.then_ret ?_
    refine RunQ.ret1 rfl rfl ?_
    have h0 : s.n = 0 := by simpa using hc0
    have : l = [] := List.eq_nil_of_length_eq_zero (by omega)
    subst this
    exact ⟨rfl, Sl.none, rfl, IsBytes.nilb⟩
  · refine Run.skip ?_
    refine RunQ.then_normal ?_
    refine Run.seq ?_
    refine Run.seq ?_
    refine Run.region' ?_
    refine RunL.pure rfl rfl (OpG.plain rfl (OpP.move (Val.of rfl))) ?_
    refine RunL.pure rfl rfl (OpG.plain rfl (OpP.eql_string (Val.of rfl) (Val.of rfl) inferInstance)) ?_
    refine RunL.nil ?_
    refine RunQ.then_normal ?_
    refine Run.cond rfl (fun hc1 => ?_) (fun hc1 => ?_)
    · exact absurd hc1 (by simp [ByteArray.toList_eq]) 
    · refine Run.skip ?_
      refine RunQ.then_normal ?_
      refine Run.seq ?_
      refine Run.seq ?_
      refine Run.region' ?_
      refine RunL.pure rfl rfl (OpG.plain rfl (OpP.move (Val.of rfl))) ?_
      refine RunL.pure rfl rfl (OpG.plain rfl (OpP.lenStr (Val.of rfl) inferInstance)) ?_
      refine RunL.pure rfl rfl (OpG.plain rfl (OpP.bin (Val.of rfl) (Val.of rfl) rfl)) ?_
      refine RunL.pure rfl rfl (OpG.plain rfl (OpP.move (Val.of rfl))) ?_
      refine RunL.pure rfl rfl (OpG.onT rfl rfl rfl (OpP.move (Val.of rfl))) ?_
      refine RunL.pure rfl rfl (OpG.onT rfl rfl rfl (OpP.indexStr (i := 0) (Val.lz rfl) (Val.of rfl) (fun hA => rfl) inferInstance)) ?_
      refine RunL.pure rfl rfl (OpG.onT rfl rfl rfl (OpP.bin (Val.lz rfl) (Val.of rfl) rfl)) ?_
      refine RunL.pure rfl rfl (OpG.plain rfl (OpP.pick_and rfl rfl rfl)) ?_
      refine RunL.nil ?_
      refine RunQ.then_normal ?_
      refine Run.cond rfl (fun hc2 => ?_) (fun hc2 => ?_)
      · refine Run.seq ?_
        apply Run.drawS 6 [true, true, true, false, true, true] [_, _, _, undef, _, _] (by kernel_rfl) rfl (by kernel_rfl)
        apply Stage.act 6 [3] rfl (by kernel_rfl) (by kernel_rfl)
        · refine FrontOk.cons (OpG.plain rfl (OpP.move (Val.of rfl))) ?_
          refine FrontOk.cons (OpG.plain rfl (OpP.move (Val.of rfl))) ?_
          refine FrontOk.cons (OpG.plain rfl (OpP.indexStr (i := 0) (Val.of rfl) (Val.of rfl) (fun hA => rfl) inferInstance)) ?_
          refine FrontOk.skip rfl ?_
          refine FrontOk.cons (OpG.plain rfl (OpP.move (Val.of rfl))) ?_
          refine FrontOk.cons (OpG.plain rfl (OpP.indexStr (i := 0) (Val.of rfl) (Val.of rfl) (fun hA => rfl) inferInstance)) ?_
          exact FrontOk.nil
        refine all_cons ?_ all_nil
        refine ActOk.mk 6 [true, true, true, true, true, true] [false, false, false, true, false, false] rfl rfl rfl (OpXG.call (by kernel_rfl) rfl Take.nothing (by have hct := bytes_trimRightByte (c := 0) hs; exact hct)) ?_
        rintro v3 h3 L3 hle3 ⟨N3, ⟨he3, s3, hv3, hs3⟩, hL3⟩
        subst he3 hv3 hL3
        apply Stage.goto [_, _, _, _, _, _]
        · exact ⟨rfl, rfl, rfl, rfl, rfl, trivial⟩
        · rfl
        apply Stage.last 6 rfl (by kernel_rfl) rfl rfl
        · refine FrontOk.cons (OpG.plain rfl (OpP.move (Val.of rfl))) ?_
          refine FrontOk.cons (OpG.plain rfl (OpP.move (Val.of rfl))) ?_
          refine FrontOk.cons (OpG.plain rfl (OpP.indexStr (i := 0) (Val.of rfl) (Val.of rfl) (fun hA => rfl) inferInstance)) ?_
          refine FrontOk.done rfl ?_
          refine FrontOk.cons (OpG.plain rfl (OpP.move (Val.of rfl))) ?_
          refine FrontOk.cons (OpG.plain rfl (OpP.indexStr (i := 0) (Val.of rfl) (Val.of rfl) (fun hA => rfl) inferInstance)) ?_
          exact FrontOk.nil
        · rfl
        · rfl
        refine RunL.call rfl (by kernel_rfl) rfl Take.nothing (by have hct := bytes_trimLeftByte (c := 0) hs3; exact hct) (fun v6 h6 N6 hle6 hx6 => ?_)
        obtain ⟨he6, s6, hv6, hs6⟩ := hx6
        subst he6 hv6
        refine RunL.pure rfl rfl (OpG.plain rfl (OpP.assign (Val.of rfl))) ?_
        refine RunL.nil ?_
        refine RunQ.then_normal ?_
        refine Run.ret ?_
        refine RunQ.then_ret ?_
        refine RunQ.ret1 rfl rfl ?_
        exact ⟨rfl, s6, rfl, hs6⟩
      · exact absurd hc2 (by decide) 
theorem dropWhile_all (l : List UInt8) : l.dropWhile (· == 0) = [] ↔ allZero l = true := by
  unfold allZero
  rw [List.all_eq_true]
  induction l with
  | nil => simp
  | cons x l ih =>
    rw [List.dropWhile_cons]
    by_cases hx : x = 0
    · simp only [hx, beq_self_eq_true, if_true, ih, List.mem_cons]
      constructor
      · intro h y hy
        rcases hy with rfl | hy
        · rfl
        · exact h y hy
      · intro h y hy
        exact h y (.inr hy)
    · simp [hx]
theorem allZero_reverse (l : List UInt8) : allZero l.reverse = allZero l := by unfold allZero; rw [List.all_reverse]
theorem trim_blank (l : List UInt8) : (((trimL 0 (trimR 0 l)).length : Int) == 0) = allZero l := by
  rw [Bool.eq_iff_iff]
  have h1 : ((((trimL 0 (trimR 0 l)).length : Int) == 0) = true) ↔ trimL 0 (trimR 0 l) = [] := by
    simp only [beq_iff_eq, Int.natCast_eq_zero, List.length_eq_zero_iff]
  rw [h1]
  unfold trimL
  rw [dropWhile_all]
  unfold trimR
  rw [allZero_reverse]
  constructor
  · intro h
    cases hd : l.reverse.dropWhile (· == 0) with
    | nil => rw [dropWhile_all, allZero_reverse] at hd; exact hd
    | cons x xs =>
      exfalso
      have h2 := List.head?_dropWhile_not (· == 0) l.reverse
      rw [hd] at h2 h
      simp [allZero] at h
      simp [h.1] at h2
  · intro h
    rw [← allZero_reverse] at h
    rw [(dropWhile_all _).2 h]; rfl
set_option maxRecDepth 100000 in
theorem oxm_blank {h : GH} {s : Sl} {l : List UInt8} (hs : IsBytes h s l) : Ctr Tryd.prog 82 [s.v].toArray h [] fun r h' N => r = .bool (allZero l) := by
  refine Ctr.of_run Tryd.func82 rfl rfl rfl fun w0 => ?_
  refine Run.seq ?_
  refine Run.region' ?_
  refine RunL.pure rfl rfl (OpG.plain rfl (OpP.assign (Val.of rfl))) ?_
  refine RunL.nil ?_
  refine RunQ.then_normal ?_
  refine Run.seq ?_
  refine Run.region' ?_
  refine RunL.pure rfl rfl (OpG.plain rfl (OpP.move (Val.of rfl))) ?_
  refine RunL.call rfl (by kernel_rfl) rfl Take.nothing (by have hct := bytes_Trim hs; exact hct) (fun v6 h6 N6 hle6 hx6 => ?_)
  obtain ⟨he6, s6, hv6, hs6⟩ := hx6
  subst he6 hv6
  refine RunL.pure rfl rfl (OpG.plain rfl (OpP.lenSl (Val.of rfl) inferInstance)) ?_
  refine RunL.pure rfl rfl (OpG.plain rfl (OpP.bin (Val.of rfl) (Val.of rfl) rfl)) ?_
  refine RunL.pure rfl rfl (OpG.plain rfl (OpP.assign (Val.of rfl))) ?_
  refine RunL.nil ?_
  refine RunQ.then_normal ?_
  refine Run.ret ?_
  refine RunQ.ret1 rfl rfl ?_
  rw [hs6.n, trim_blank]
/-- Are all bits 1, as far as so many bits go? (n: how many bits there are from here on.) -/
def onesGo (bits : Int) : Int → List UInt8 → Bool
  | _, [] => true
  | n, x :: xs => if x != (if n - bits > 0 then shrB 255 (min (n - bits) 8).toNat else 255) then false else onesGo bits (n - 8) xs
def oxmOnes (l : List UInt8) (bits : Int) : Bool := onesGo bits (l.length * 8) l
set_option maxHeartbeats 1000000 in
set_option maxRecDepth 100000 in
theorem oxm_ones {h : GH} {s : Sl} {l : List UInt8} {bits : Int} (hs : IsBytes h s l) (hb : -1000000 ≤ bits ∧ bits ≤ 4000000000000000) : Ctr Tryd.prog 83 [s.v, i64v bits].toArray h [] fun r h' N => r = .bool (oxmOnes l bits) := by
  have hn := hs.n
  have hsm := hs.small
  refine Ctr.of_run Tryd.func83 rfl rfl rfl fun w0 => ?_
  refine Run.seq ?_
  refine Run.region' ?_
  refine RunL.pure rfl rfl (OpG.plain rfl (OpP.assign (Val.of rfl))) ?_
  refine RunL.nil ?_
  refine RunQ.then_normal ?_
  refine Run.seq ?_
  refine Run.region' ?_
  refine RunL.pure rfl rfl (OpG.plain rfl (OpP.move (Val.of rfl))) ?_
  refine RunL.pure rfl rfl (OpG.plain rfl (OpP.lenSl (Val.of rfl) inferInstance)) ?_
  refine RunL.pure rfl rfl (OpG.plain rfl (by first | exact OpP.mul64 (Val.of rfl) (Val.of rfl) (by omega) (by omega) | exact OpP.bin (Val.of rfl) (Val.of rfl) rfl)) ?_
  refine RunL.pure rfl rfl (OpG.plain rfl (OpP.assign (Val.of rfl))) ?_
  refine RunL.nil ?_
  refine RunQ.then_normal ?_
  refine Run.seq ?_
  refine Run.seq ?_
  refine Run.region' ?_
  refine RunL.pure rfl rfl (OpG.plain rfl (OpP.move (Val.of rfl))) ?_
  refine RunL.pure rfl rfl (OpG.plain rfl (OpP.lenSl (Val.of rfl) inferInstance)) ?_
  refine RunL.pure rfl rfl (OpG.plain rfl (OpP.move (Val.of rfl))) ?_
  refine RunL.nil ?_
  refine RunQ.then_normal ?_
  refine Run.block ?_
  refine Run.loopT (fun m E h' L' => ∃ (k : Nat), k ≤ l.length ∧ m = l.length - k ∧ h' = h ∧ L' = [] ∧ oxmOnes l bits = onesGo bits (l.length * 8 - k * 8) (l.drop k) ∧ E = [(13, s.v), (14, .int .i64 (s.n : Int)), (15, i64v (k : Int)), (1, i64v bits), (5, i64v ((s.n : Int) * 8))]) l.length ⟨0, Nat.zero_le _, rfl, rfl, rfl, by simp [oxmOnes], rfl⟩ ⟨rfl, rfl, rfl, rfl, rfl, trivial⟩ Take.whole ?_
  rintro m E1 h1 L1 ⟨k, hk, rfl, rfl, rfl, hz, rfl⟩
  refine Run.seq ?_
  refine Run.region' ?_
  refine RunL.pure rfl rfl (OpG.plain rfl (OpP.bin (Val.of rfl) (Val.of rfl) rfl)) ?_
  refine RunL.nil ?_
  refine RunQ.then_normal ?_
  refine Run.seq ?_
  refine Run.cond rfl (fun hc0 => ?_) (fun hc0 => ?_)
  · have hlt : k < l.length := by simp only [decide_eq_true_eq] at hc0; omega
    obtain ⟨b, o, c, rfl, hle, hcell⟩ := hs.at (by intro e; subst e; simp at hlt)
    have hx := hcell k hlt
    rw [List.drop_eq_getElem_cons hlt, onesGo] at hz
    refine Run.skip ?_
    refine RunQ.then_normal ?_
    refine Run.seq ?_
    refine Run.block ?_
    refine Run.seq ?_
    refine Run.region' ?_
    refine RunL.pure rfl rfl (OpG.plain rfl (OpP.move (Val.of rfl))) ?_
    refine RunL.pure rfl rfl (OpG.plain rfl (by first | exact OpP.indexSl (Val.of rfl) (Val.of rfl) (fun _ => by omega) inferInstance inferInstance | exact OpP.indexI (Val.of rfl) (Val.of rfl) (fun _ => by omega) (fun _ => by omega) inferInstance inferInstance)) ?_
    refine RunL.pure rfl rfl (OpG.plain rfl (by first | exact OpP.load1 (Val.of rfl) (fun _ => .own Take.head rfl) inferInstance | exact OpP.load1 (Val.of rfl) (fun _ => .own (Take.cons Take.head) rfl) inferInstance | exact OpP.load1 (Val.of rfl) (fun _ => .own (Take.cons (Take.cons Take.head)) rfl) inferInstance | exact OpP.load1 (Val.of rfl) (fun _ => .own (Take.cons (Take.cons (Take.cons Take.head))) rfl) inferInstance | exact OpP.load1 (Val.of rfl) (fun _ => .own (Take.cons (Take.cons (Take.cons (Take.cons Take.head)))) rfl) inferInstance | exact OpP.load1 (Val.of rfl) (fun _ => .own (Take.app Take.head) rfl) inferInstance | exact OpP.load1 (Val.of rfl) (fun _ => .own (Take.app (Take.cons Take.head)) rfl) inferInstance | exact OpP.load1 (Val.of rfl) (fun _ => .own (Take.cons (Take.app Take.head)) rfl) inferInstance | exact OpP.load1 (Val.of rfl) (fun _ => .own (Take.app (Take.cons (Take.cons Take.head))) rfl) inferInstance | exact OpP.load1 (Val.of rfl) (fun _ => .own (Take.cons (Take.app (Take.cons Take.head))) rfl) inferInstance | exact OpP.load1 (Val.of rfl) (fun _ => .own (Take.cons (Take.cons (Take.app Take.head))) rfl) inferInstance | exact OpP.load1 (Val.of rfl) (fun _ => .own (Take.app (Take.cons (Take.cons (Take.cons Take.head)))) rfl) inferInstance | exact OpP.load1 (Val.of rfl) (fun _ => .own (Take.cons (Take.app (Take.cons (Take.cons Take.head)))) rfl) inferInstance | exact OpP.load1 (Val.of rfl) (fun _ => .own (Take.cons (Take.cons (Take.app (Take.cons Take.head)))) rfl) inferInstance | exact OpP.load1 (Val.of rfl) (fun _ => .own (Take.cons (Take.cons (Take.cons (Take.app Take.head)))) rfl) inferInstance | exact OpP.load1 (Val.of rfl) (fun _ => .inl (by assumption)) inferInstance)) ?_
    refine RunL.pure rfl rfl (OpG.plain rfl (OpP.assign (Val.of rfl))) ?_
    refine RunL.pure rfl rfl (OpG.plain rfl (OpP.assign (Val.of rfl))) ?_
    refine RunL.nil ?_
    refine RunQ.then_normal ?_
    refine Run.seq ?_
    refine Run.region' ?_
    refine RunL.pure rfl rfl (OpG.plain rfl (OpP.assign (Val.c8 (Val.of rfl) (by decide)))) ?_
    refine RunL.nil ?_
    refine RunQ.then_normal ?_
    refine Run.seq ?_
    refine Run.seq ?_
    refine Run.region' ?_
    refine RunL.pure rfl rfl (OpG.plain rfl (OpP.move (Val.of rfl))) ?_
    refine RunL.pure rfl rfl (OpG.plain rfl (OpP.move (Val.of rfl))) ?_
    refine RunL.pure rfl rfl (OpG.plain rfl (by first | exact OpP.mul64 (Val.of rfl) (Val.of rfl) (by omega) (by omega) | exact OpP.bin (Val.of rfl) (Val.of rfl) rfl)) ?_
    refine RunL.pure rfl rfl (OpG.plain rfl (by first | exact OpP.sub64 (Val.of rfl) (Val.of rfl) (by omega) (by omega) | exact OpP.bin (Val.of rfl) (Val.of rfl) rfl)) ?_
    refine RunL.pure rfl rfl (OpG.plain rfl (OpP.move (Val.of rfl))) ?_
    refine RunL.pure rfl rfl (OpG.plain rfl (by first | exact OpP.sub64 (Val.of rfl) (Val.of rfl) (by omega) (by omega) | exact OpP.bin (Val.of rfl) (Val.of rfl) rfl)) ?_
    refine RunL.pure rfl rfl (OpG.plain rfl (OpP.assign (Val.of rfl))) ?_
    refine RunL.nil ?_
    refine RunQ.then_normal ?_
    refine Run.seq ?_
    refine Run.region' ?_
    refine RunL.pure rfl rfl (OpG.plain rfl (OpP.move (Val.of rfl))) ?_
    refine RunL.pure rfl rfl (OpG.plain rfl (OpP.bin (Val.of rfl) (Val.of rfl) rfl)) ?_
    refine RunL.nil ?_
    refine RunQ.then_normal ?_
    refine Run.cond rfl (fun hc1 => ?_) (fun hc1 => ?_)
    · have hsp : ((l.length : Int) * 8 - (k : Int) * 8 - bits) > 0 := by simpa using hc1
      rw [if_pos hsp] at hz
      refine Run.region' ?_
      refine RunL.pure rfl rfl (OpG.plain rfl (OpP.move (Val.of rfl))) ?_
      refine RunL.pure rfl rfl (OpG.plain rfl (OpP.move (Val.of rfl))) ?_
      refine RunL.pure rfl rfl (OpG.plain rfl (OpP.min2 (Val.of rfl) (Val.of rfl))) ?_
      refine RunL.pure rfl rfl (OpG.plain rfl (by first | exact OpP.shr_u8 (Val.of rfl) (Val.of rfl) (by first | decide | omega) | exact OpP.shr (Val.of rfl) (Val.of rfl) (by decide) | exact OpP.shr (Val.of rfl) (Val.of rfl) (by omega))) ?_
      refine RunL.pure rfl rfl (OpG.plain rfl (OpP.assign (Val.of rfl))) ?_
      refine RunL.nil ?_
      refine RunQ.then_normal ?_
      refine Run.seq ?_
      refine Run.region' ?_
      refine RunL.pure rfl rfl (OpG.plain rfl (OpP.move (Val.of rfl))) ?_
      refine RunL.pure rfl rfl (OpG.plain rfl (OpP.move (Val.of rfl))) ?_
      refine RunL.pure rfl rfl (OpG.plain rfl (by first | exact OpP.neq_u8 (Val.of rfl) (Val.of rfl) | exact OpP.bin (Val.of rfl) (Val.of rfl) rfl)) ?_
      refine RunL.nil ?_
      refine RunQ.then_normal ?_
      refine Run.cond rfl (fun hc2 => ?_) (fun hc2 => ?_)
      · have h2 : (l[k] != shrB 255 (min ((l.length : Int) * 8 - (k : Int) * 8 - bits) 8).toNat) = true := hc2
        rw [h2, if_pos rfl] at hz
        refine Run.seq ?_
        refine Run.region' ?_
        refine RunL.pure rfl rfl (OpG.plain rfl (OpP.assign (Val.of rfl))) ?_
        refine RunL.nil ?_
        refine RunQ.then_normal ?_
        refine Run.ret ?_
        refine RunQ.block_ret ?_
        refine RunQ.then_ret ?_
        refine RunQ.then_ret ?_
        refine RunQ.block_ret ?_
        refine RunQ.then_ret ?_
        refine RunQ.ret1 rfl rfl ?_
        rw [hz]
      · have h2 : (l[k] != shrB 255 (min ((l.length : Int) * 8 - (k : Int) * 8 - bits) 8).toNat) = false := hc2
        rw [h2, if_neg (by simp)] at hz
        refine Run.skip ?_
        refine RunQ.block_normal ?_
        refine RunQ.then_normal ?_
        refine Run.region' ?_
        refine RunL.pure rfl rfl (OpG.plain rfl (by first | exact OpP.add64 (Val.of rfl) (Val.of rfl) (by omega) (by omega) | exact OpP.bin (Val.of rfl) (Val.of rfl) rfl)) ?_
        refine RunL.pure rfl rfl (OpG.plain rfl (OpP.move (Val.of rfl))) ?_
        refine RunL.nil ?_
        have e1 : (l.length : Int) * 8 - (k : Int) * 8 - 8 = (l.length : Int) * 8 - ((k + 1 : Nat) : Int) * 8 := by omega
        rw [e1] at hz
        exact RunQ.againT (l.length - (k + 1)) (by omega) ⟨k + 1, by omega, rfl, rfl, rfl, hz, rfl⟩ ⟨rfl, rfl, rfl, rfl, rfl, trivial⟩ Take.whole
    · have hsp : ¬ ((l.length : Int) * 8 - (k : Int) * 8 - bits) > 0 := by simpa using hc1
      rw [if_neg hsp] at hz
      refine Run.skip ?_
      refine RunQ.then_normal ?_
      refine Run.seq ?_
      refine Run.region' ?_
      refine RunL.pure rfl rfl (OpG.plain rfl (OpP.move (Val.of rfl))) ?_
      refine RunL.pure rfl rfl (OpG.plain rfl (OpP.move (Val.of rfl))) ?_
      refine RunL.pure rfl rfl (OpG.plain rfl (by first | exact OpP.neq_u8 (Val.of rfl) (Val.of rfl) | exact OpP.bin (Val.of rfl) (Val.of rfl) rfl)) ?_
      refine RunL.nil ?_
      refine RunQ.then_normal ?_
      refine Run.cond rfl (fun hc3 => ?_) (fun hc3 => ?_)
      · have h2 : (l[k] != 255) = true := hc3
        rw [h2, if_pos rfl] at hz
        refine Run.seq ?_
        refine Run.region' ?_
        refine RunL.pure rfl rfl (OpG.plain rfl (OpP.assign (Val.of rfl))) ?_
        refine RunL.nil ?_
        refine RunQ.then_normal ?_
        refine Run.ret ?_
        refine RunQ.block_ret ?_
        refine RunQ.then_ret ?_
        refine RunQ.then_ret ?_
        refine RunQ.block_ret ?_
        refine RunQ.then_ret ?_
        refine RunQ.ret1 rfl rfl ?_
        rw [hz]
      · have h2 : (l[k] != 255) = false := hc3
        rw [h2, if_neg (by simp)] at hz
        refine Run.skip ?_
        refine RunQ.block_normal ?_
        refine RunQ.then_normal ?_
        refine Run.region' ?_
        refine RunL.pure rfl rfl (OpG.plain rfl (by first | exact OpP.add64 (Val.of rfl) (Val.of rfl) (by omega) (by omega) | exact OpP.bin (Val.of rfl) (Val.of rfl) rfl)) ?_
        refine RunL.pure rfl rfl (OpG.plain rfl (OpP.move (Val.of rfl))) ?_
        refine RunL.nil ?_
        have e1 : (l.length : Int) * 8 - (k : Int) * 8 - 8 = (l.length : Int) * 8 - ((k + 1 : Nat) : Int) * 8 := by omega
        rw [e1] at hz
        exact RunQ.againT (l.length - (k + 1)) (by omega) ⟨k + 1, by omega, rfl, rfl, rfl, hz, rfl⟩ ⟨rfl, rfl, rfl, rfl, rfl, trivial⟩ Take.whole
  · have hge : k = l.length := by simp only [decide_eq_false_iff_not] at hc0; omega
    refine Run.exit ?_
    refine RunQ.then_exit ?_
    refine RunQ.then_exit ?_
    refine RunQ.block_exit ?_
    refine RunQ.then_normal ?_
    refine Run.seq ?_
    refine Run.region' ?_
    refine RunL.pure rfl rfl (OpG.plain rfl (OpP.assign (Val.of rfl))) ?_
    refine RunL.nil ?_
    refine RunQ.then_normal ?_
    refine Run.ret ?_
    refine RunQ.ret1 rfl rfl ?_
    rw [hge, List.drop_length] at hz; rw [hz]; rfl
set_option maxHeartbeats 1000000 in
set_option maxRecDepth 100000 in
theorem oxm_outside {h : GH} {s s1 : Sl} {l m1 : List UInt8} (hs : IsBytes h s l) (hs1 : IsBytes h s1 m1) (hl : l.length ≤ m1.length) : Ctr Tryd.prog 84 [s.v, s1.v].toArray h [] fun r h' N => r = .bool ((l.zip m1).any fun p => p.1 &&& ~~~p.2 != 0) := by
  have hn := hs.n
  have hsm := hs.small
  have hn1 := hs1.n
  refine Ctr.of_run Tryd.func84 rfl rfl rfl fun w0 => ?_
  refine Run.seq ?_
  refine Run.region' ?_
  refine RunL.pure rfl rfl (OpG.plain rfl (OpP.assign (Val.of rfl))) ?_
  refine RunL.nil ?_
  refine RunQ.then_normal ?_
  refine Run.seq ?_
  refine Run.seq ?_
  refine Run.region' ?_
  refine RunL.pure rfl rfl (OpG.plain rfl (OpP.move (Val.of rfl))) ?_
  refine RunL.pure rfl rfl (OpG.plain rfl (OpP.lenSl (Val.of rfl) inferInstance)) ?_
  refine RunL.pure rfl rfl (OpG.plain rfl (OpP.move (Val.of rfl))) ?_
  refine RunL.nil ?_
  refine RunQ.then_normal ?_
  refine Run.block ?_
  refine Run.loopT (fun m E h' L' => ∃ (k : Nat), k ≤ l.length ∧ m = l.length - k ∧ h' = h ∧ L' = [] ∧ ((l.zip m1).any fun p => p.1 &&& ~~~p.2 != 0) = (((l.drop k).zip (m1.drop k)).any fun p => p.1 &&& ~~~p.2 != 0) ∧ E = [(7, s.v), (8, .int .i64 (s.n : Int)), (9, i64v (k : Int)), (1, s1.v)]) l.length ⟨0, Nat.zero_le _, rfl, rfl, rfl, rfl, rfl⟩ ⟨rfl, rfl, rfl, rfl, trivial⟩ Take.whole ?_
  rintro m E1 h1 L1 ⟨k, hk, rfl, rfl, rfl, hz, rfl⟩
  refine Run.seq ?_
  refine Run.region' ?_
  refine RunL.pure rfl rfl (OpG.plain rfl (OpP.bin (Val.of rfl) (Val.of rfl) rfl)) ?_
  refine RunL.nil ?_
  refine RunQ.then_normal ?_
  refine Run.seq ?_
  refine Run.cond rfl (fun hc0 => ?_) (fun hc0 => ?_)
  · have hlt : k < l.length := by simp only [decide_eq_true_eq] at hc0; omega
    obtain ⟨b, o, c, rfl, hle, hcell⟩ := hs.at (by intro e; subst e; simp at hlt)
    have hx := hcell k hlt
    have hlt1 : k < m1.length := by omega
    obtain ⟨b2, o2, c2, rfl, hle2, hcell2⟩ := hs1.at (by intro e; subst e; simp at hlt1)
    have hx2 := hcell2 k hlt1
    rw [List.drop_eq_getElem_cons hlt, List.drop_eq_getElem_cons hlt1, List.zip_cons_cons, List.any_cons] at hz
    refine Run.skip ?_
    refine RunQ.then_normal ?_
    refine Run.seq ?_
    refine Run.block ?_
    refine Run.seq ?_
    refine Run.region' ?_
    refine RunL.pure rfl rfl (OpG.plain rfl (OpP.move (Val.of rfl))) ?_
    refine RunL.pure rfl rfl (OpG.plain rfl (by first | exact OpP.indexSl (Val.of rfl) (Val.of rfl) (fun _ => by omega) inferInstance inferInstance | exact OpP.indexI (Val.of rfl) (Val.of rfl) (fun _ => by omega) (fun _ => by omega) inferInstance inferInstance)) ?_
    refine RunL.pure rfl rfl (OpG.plain rfl (by first | exact OpP.load1 (Val.of rfl) (fun _ => .own Take.head rfl) inferInstance | exact OpP.load1 (Val.of rfl) (fun _ => .own (Take.cons Take.head) rfl) inferInstance | exact OpP.load1 (Val.of rfl) (fun _ => .own (Take.cons (Take.cons Take.head)) rfl) inferInstance | exact OpP.load1 (Val.of rfl) (fun _ => .own (Take.cons (Take.cons (Take.cons Take.head))) rfl) inferInstance | exact OpP.load1 (Val.of rfl) (fun _ => .own (Take.cons (Take.cons (Take.cons (Take.cons Take.head)))) rfl) inferInstance | exact OpP.load1 (Val.of rfl) (fun _ => .own (Take.app Take.head) rfl) inferInstance | exact OpP.load1 (Val.of rfl) (fun _ => .own (Take.app (Take.cons Take.head)) rfl) inferInstance | exact OpP.load1 (Val.of rfl) (fun _ => .own (Take.cons (Take.app Take.head)) rfl) inferInstance | exact OpP.load1 (Val.of rfl) (fun _ => .own (Take.app (Take.cons (Take.cons Take.head))) rfl) inferInstance | exact OpP.load1 (Val.of rfl) (fun _ => .own (Take.cons (Take.app (Take.cons Take.head))) rfl) inferInstance | exact OpP.load1 (Val.of rfl) (fun _ => .own (Take.cons (Take.cons (Take.app Take.head))) rfl) inferInstance | exact OpP.load1 (Val.of rfl) (fun _ => .own (Take.app (Take.cons (Take.cons (Take.cons Take.head)))) rfl) inferInstance | exact OpP.load1 (Val.of rfl) (fun _ => .own (Take.cons (Take.app (Take.cons (Take.cons Take.head)))) rfl) inferInstance | exact OpP.load1 (Val.of rfl) (fun _ => .own (Take.cons (Take.cons (Take.app (Take.cons Take.head)))) rfl) inferInstance | exact OpP.load1 (Val.of rfl) (fun _ => .own (Take.cons (Take.cons (Take.cons (Take.app Take.head)))) rfl) inferInstance | exact OpP.load1 (Val.of rfl) (fun _ => .inl (by assumption)) inferInstance)) ?_
    refine RunL.pure rfl rfl (OpG.plain rfl (OpP.assign (Val.of rfl))) ?_
    refine RunL.pure rfl rfl (OpG.plain rfl (OpP.assign (Val.of rfl))) ?_
    refine RunL.nil ?_
    refine RunQ.then_normal ?_
    refine Run.seq ?_
    refine Run.region' ?_
    refine RunL.pure rfl rfl (OpG.plain rfl (OpP.move (Val.of rfl))) ?_
    refine RunL.pure rfl rfl (OpG.plain rfl (OpP.move (Val.of rfl))) ?_
    refine RunL.pure rfl rfl (OpG.plain rfl (OpP.move (Val.of rfl))) ?_
    refine RunL.pure rfl rfl (OpG.plain rfl (by first | exact OpP.indexSl (Val.of rfl) (Val.of rfl) (fun _ => by omega) inferInstance inferInstance | exact OpP.indexI (Val.of rfl) (Val.of rfl) (fun _ => by omega) (fun _ => by omega) inferInstance inferInstance)) ?_
    refine RunL.pure rfl rfl (OpG.plain rfl (by first | exact OpP.load1 (Val.of rfl) (fun _ => .own Take.head rfl) inferInstance | exact OpP.load1 (Val.of rfl) (fun _ => .own (Take.cons Take.head) rfl) inferInstance | exact OpP.load1 (Val.of rfl) (fun _ => .own (Take.cons (Take.cons Take.head)) rfl) inferInstance | exact OpP.load1 (Val.of rfl) (fun _ => .own (Take.cons (Take.cons (Take.cons Take.head))) rfl) inferInstance | exact OpP.load1 (Val.of rfl) (fun _ => .own (Take.cons (Take.cons (Take.cons (Take.cons Take.head)))) rfl) inferInstance | exact OpP.load1 (Val.of rfl) (fun _ => .own (Take.app Take.head) rfl) inferInstance | exact OpP.load1 (Val.of rfl) (fun _ => .own (Take.app (Take.cons Take.head)) rfl) inferInstance | exact OpP.load1 (Val.of rfl) (fun _ => .own (Take.cons (Take.app Take.head)) rfl) inferInstance | exact OpP.load1 (Val.of rfl) (fun _ => .own (Take.app (Take.cons (Take.cons Take.head))) rfl) inferInstance | exact OpP.load1 (Val.of rfl) (fun _ => .own (Take.cons (Take.app (Take.cons Take.head))) rfl) inferInstance | exact OpP.load1 (Val.of rfl) (fun _ => .own (Take.cons (Take.cons (Take.app Take.head))) rfl) inferInstance | exact OpP.load1 (Val.of rfl) (fun _ => .own (Take.app (Take.cons (Take.cons (Take.cons Take.head)))) rfl) inferInstance | exact OpP.load1 (Val.of rfl) (fun _ => .own (Take.cons (Take.app (Take.cons (Take.cons Take.head)))) rfl) inferInstance | exact OpP.load1 (Val.of rfl) (fun _ => .own (Take.cons (Take.cons (Take.app (Take.cons Take.head)))) rfl) inferInstance | exact OpP.load1 (Val.of rfl) (fun _ => .own (Take.cons (Take.cons (Take.cons (Take.app Take.head)))) rfl) inferInstance | exact OpP.load1 (Val.of rfl) (fun _ => .inl (by assumption)) inferInstance)) ?_
    refine RunL.pure rfl rfl (OpG.plain rfl (by first | exact OpP.andNot_u8 (Val.of rfl) (Val.of rfl) | exact OpP.bin (Val.of rfl) (Val.of rfl) rfl)) ?_
    refine RunL.pure rfl rfl (OpG.plain rfl (by first | exact OpP.neq_u8 (Val.of rfl) (Val.c8 (Val.of rfl) (by decide)) | exact OpP.bin (Val.of rfl) (Val.of rfl) rfl)) ?_
    refine RunL.nil ?_
    refine RunQ.then_normal ?_
    refine Run.cond rfl (fun hc1 => ?_) (fun hc1 => ?_)
    · have h2 : (l[k] &&& ~~~m1[k] != 0) = true := hc1
      rw [h2, Bool.true_or] at hz
      refine Run.seq ?_
      refine Run.region' ?_
      refine RunL.pure rfl rfl (OpG.plain rfl (OpP.assign (Val.of rfl))) ?_
      refine RunL.nil ?_
      refine RunQ.then_normal ?_
      refine Run.ret ?_
      refine RunQ.block_ret ?_
      refine RunQ.then_ret ?_
      refine RunQ.then_ret ?_
      refine RunQ.block_ret ?_
      refine RunQ.then_ret ?_
      refine RunQ.ret1 rfl rfl ?_
      rw [hz]
    · have h2 : (l[k] &&& ~~~m1[k] != 0) = false := hc1
      rw [h2, Bool.false_or] at hz
      refine Run.skip ?_
      refine RunQ.block_normal ?_
      refine RunQ.then_normal ?_
      refine Run.region' ?_
      refine RunL.pure rfl rfl (OpG.plain rfl (by first | exact OpP.add64 (Val.of rfl) (Val.of rfl) (by omega) (by omega) | exact OpP.bin (Val.of rfl) (Val.of rfl) rfl)) ?_
      refine RunL.pure rfl rfl (OpG.plain rfl (OpP.move (Val.of rfl))) ?_
      refine RunL.nil ?_
      exact RunQ.againT (l.length - (k + 1)) (by omega) ⟨k + 1, by omega, rfl, rfl, rfl, hz, rfl⟩ ⟨rfl, rfl, rfl, rfl, trivial⟩ Take.whole
  · have hge : k = l.length := by simp only [decide_eq_false_iff_not] at hc0; omega
    refine Run.exit ?_
    refine RunQ.then_exit ?_
    refine RunQ.then_exit ?_
    refine RunQ.block_exit ?_
    refine RunQ.then_normal ?_
    refine Run.seq ?_
    refine Run.region' ?_
    refine RunL.pure rfl rfl (OpG.plain rfl (OpP.assign (Val.of rfl))) ?_
    refine RunL.nil ?_
    refine RunQ.then_normal ?_
    refine Run.ret ?_
    refine RunQ.ret1 rfl rfl ?_
    rw [hge, List.drop_length] at hz; rw [hz]; rfl
end Go.Proofs.YtcckofgleghbgaaDoor
