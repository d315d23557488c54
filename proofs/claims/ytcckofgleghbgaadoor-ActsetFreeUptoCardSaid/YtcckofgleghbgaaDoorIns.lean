/- Contracts: slices.Insert, DeleteFunc at lists of actions. -/
import Derived.Test.YtcckofgleghbgaaDoorSetb
namespace Go.Proofs.YtcckofgleghbgaaDoor
open Go Sx
theorem slAt_off (b c i size : Nat) (hne : c ≠ i) : slAt (some ⟨b, 0, none⟩) c i size = some ⟨b, i * size, none⟩ := by
  unfold slAt
  rw [if_neg hne]
  simp only [Option.map_some, Addr.add, Nat.zero_add]
  split
  · rename_i h0; rw [h0]
  · rfl
theorem ins_place (cur cs : List Value) (A m k : Nat) (hA : A ≤ m) (hk : cs.length = k) (hl : m + k ≤ cur.length) :
    (putAt (putAt cur (A + k) ((cur.drop A).take (m - A))) A cs).take (m + k) = (cur.take m).take A ++ cs ++ (cur.take m).drop A := by
  have hy : ((cur.drop A).take (m - A)).length = m - A := by simp; omega
  have hi : putAt cur (A + k) ((cur.drop A).take (m - A)) = cur.take (A + k) ++ (cur.drop A).take (m - A) ++ cur.drop (m + k) := by
    rw [putAt_eq _ _ _ (by rw [hy]; omega), hy, show A + k + (m - A) = m + k by omega]
  rw [hi, putAt_eq _ _ _ (by simp; omega), hk]
  have h1 : (cur.take (A + k) ++ (cur.drop A).take (m - A) ++ cur.drop (m + k)).take A = cur.take A := by
    rw [List.append_assoc, List.take_append_of_le_length (by simp; omega), List.take_take, Nat.min_eq_left (by omega)]
  have h2 : (cur.take (A + k) ++ (cur.drop A).take (m - A) ++ cur.drop (m + k)).drop (A + k) = (cur.drop A).take (m - A) ++ cur.drop (m + k) := by
    rw [List.append_assoc, List.drop_append, List.drop_eq_nil_of_le (by simp; omega), List.nil_append, List.length_take, Nat.min_eq_left (by omega), Nat.sub_self, List.drop_zero]
  rw [h1, h2, List.take_take, Nat.min_eq_left hA, List.drop_take]
  rw [← List.append_assoc, List.take_append_of_le_length (by simp; omega), List.take_of_length_le (by simp; omega)]
theorem ins_grow (cur zs cs ys : List Value) (A k : Nat) (hA : A ≤ cur.length) (hk : cs.length = k) (hz : k + ys.length ≤ zs.length) :
    (putAt (putAt (cur.take A ++ zs) A cs) (A + k) ys).take (A + k + ys.length) = cur.take A ++ cs ++ ys := by
  have h0 : (cur.take A).length = A := by simp; omega
  have hi : putAt (cur.take A ++ zs) A cs = cur.take A ++ cs ++ zs.drop k := by
    rw [putAt_eq _ _ _ (by simp; omega), hk, List.take_left' h0, List.drop_append, List.drop_eq_nil_of_le (by omega), h0, show A + k - A = k by omega, List.nil_append]
  rw [hi, putAt_eq _ _ _ (by simp; omega), List.take_left' (by simp [h0, hk]), List.take_append_of_le_length (by simp [h0, hk]), List.take_of_length_le (by simp [h0, hk])]
set_option maxHeartbeats 2000000 in
set_option maxRecDepth 100000 in
theorem acts_Insert0 {h : GH} {l : List ActM} {b c vb i : Nat} {cur : Array Value} {css : List (List Value)} {cs : List Value} {x : ActM} (hlc : l.length ≤ c) (hmx : c ≤ maxLen) (hcs : cur.size = c * 10) (htk : cur.toList.take (l.length * 10) = css.flatten) (hrp : Reps 10 ActR h l css) (hx : ActR h x cs) (hi : i < l.length) (hl : l.length ≤ 4000000) :
    Ctr Tryd.prog 50 [.slice (some ⟨b, 0, none⟩) l.length c, i64v (i : Int), .slice (some ⟨vb, 0, none⟩) 1 1].toArray h [(b, .cells cur 41), (vb, .cells cs.toArray 41)] fun r h' N' => h' = h ∧ ∃ s' : Sl, r = s'.v ∧ s'.p ≠ none ∧ OwnActs h s' (l.take i ++ x :: l.drop i) N' := by
  have hcl := hx.len
  have hone := hx.one
  have hA : i * 10 ≤ l.length * 10 := Nat.mul_le_mul_right _ (by omega)
  have hX : css.flatten.length = l.length * 10 := hrp.length
  have hcur : cur.toList.length = c * 10 := by simpa using hcs
  have hc10 : l.length * 10 ≤ c * 10 := Nat.mul_le_mul_right _ hlc
  have hXone : ∀ u ∈ css.flatten, u.oneCell' = true := by
    intro u hu
    obtain ⟨cs1, h1, h2⟩ := List.mem_flatten.1 hu
    obtain ⟨j, hj, hje⟩ := List.getElem_of_mem h1
    have hjl : j < l.length := by rw [← hrp.len]; exact hj
    exact (hrp.rep j l[j] cs1 (by simp [hjl]) (by simp [hj, hje])).one u h2
  have hXd : (cur.toList.drop (i * 10)).take (l.length * 10 - i * 10) = css.flatten.drop (i * 10) := by rw [← htk, List.drop_take]
  have hfin : Reps 10 ActR h (l.take i ++ x :: l.drop i) (css.take i ++ cs :: css.drop i) := (hrp.take i).append (Reps.cons hx hcl (hrp.drop i))
  have hflat : (css.take i ++ cs :: css.drop i).flatten = css.flatten.take (i * 10) ++ cs ++ css.flatten.drop (i * 10) := by
    rw [flatten_take i hrp.each, flatten_drop i hrp.each, List.flatten_append, List.flatten_cons, List.append_assoc]
  have hnew : (l.take i ++ x :: l.drop i).length = l.length + 1 := by simp; omega
  refine Ctr.of_run Tryd.func50 rfl rfl rfl fun w0 => ?_
  refine Run.seq ?_
  refine Run.region' ?_
  refine RunL.pure rfl rfl (OpG.plain rfl (OpP.assign (Val.of rfl))) ?_
  refine RunL.nil ?_
  refine RunQ.then_normal ?_
  refine Run.seq ?_
  refine Run.region' ?_
  refine RunL.pure rfl rfl (OpG.plain rfl (OpP.move (Val.of rfl))) ?_
  refine RunL.pure rfl rfl (OpG.plain rfl (OpP.move (Val.of rfl))) ?_
  refine RunL.pure rfl rfl (OpG.plain rfl (by first | exact OpP.sliceLo (Val.of rfl) (Val.of rfl) (fun _ => by omega) inferInstance inferInstance | exact OpP.sliceLoI (Val.of rfl) (Val.of rfl) (fun _ => by omega) (fun _ => by omega) inferInstance inferInstance)) ?_
  refine RunL.nil ?_
  refine RunQ.then_normal ?_
  refine Run.seq ?_
  refine Run.region' ?_
  refine RunL.pure rfl rfl (OpG.plain rfl (OpP.move (Val.of rfl))) ?_
  refine RunL.pure rfl rfl (OpG.plain rfl (OpP.lenSl (Val.of rfl) inferInstance)) ?_
  refine RunL.pure rfl rfl (OpG.plain rfl (OpP.assign (Val.of rfl))) ?_
  refine RunL.nil ?_
  refine RunQ.then_normal ?_
  refine Run.seq ?_
  refine Run.seq ?_
  refine Run.region' ?_
  refine RunL.pure rfl rfl (OpG.plain rfl (OpP.move (Val.of rfl))) ?_
  refine RunL.pure rfl rfl (OpG.plain rfl (OpP.bin (Val.of rfl) (Val.of rfl) rfl)) ?_
  refine RunL.nil ?_
  refine RunQ.then_normal ?_
  refine Run.cond_false rfl ?_
  refine Run.skip ?_
  refine RunQ.then_normal ?_
  refine Run.seq ?_
  refine Run.region' ?_
  refine RunL.pure rfl rfl (OpG.plain rfl (OpP.move (Val.of rfl))) ?_
  refine RunL.pure rfl rfl (OpG.plain rfl (OpP.lenSl (Val.of rfl) inferInstance)) ?_
  refine RunL.pure rfl rfl (OpG.plain rfl (OpP.assign (Val.of rfl))) ?_
  refine RunL.nil ?_
  refine RunQ.then_normal ?_
  refine Run.seq ?_
  refine Run.seq ?_
  refine Run.region' ?_
  refine RunL.pure rfl rfl (OpG.plain rfl (OpP.move (Val.of rfl))) ?_
  refine RunL.pure rfl rfl (OpG.plain rfl (OpP.move (Val.of rfl))) ?_
  refine RunL.pure rfl rfl (OpG.plain rfl (OpP.bin (Val.of rfl) (Val.of rfl) rfl)) ?_
  refine RunL.nil ?_
  refine RunQ.then_normal ?_
  refine Run.cond rfl (fun hc1 => ?_) (fun hc1 => ?_)
  · exact absurd (show (i : Int) = (l.length : Int) by simpa using hc1) (by omega) 
  · refine Run.skip ?_
    refine RunQ.then_normal ?_
    refine Run.seq ?_
    refine Run.seq ?_
    refine Run.region' ?_
    refine RunL.pure rfl rfl (OpG.plain rfl (OpP.move (Val.of rfl))) ?_
    refine RunL.pure rfl rfl (OpG.plain rfl (OpP.move (Val.of rfl))) ?_
    refine RunL.pure rfl rfl (OpG.plain rfl (by first | exact OpP.add64 (Val.of rfl) (Val.of rfl) (by omega) (by omega) | exact OpP.bin (Val.of rfl) (Val.of rfl) rfl)) ?_
    refine RunL.pure rfl rfl (OpG.plain rfl (OpP.move (Val.of rfl))) ?_
    refine RunL.pure rfl rfl (OpG.plain rfl (OpP.capSl (Val.of rfl) inferInstance)) ?_
    refine RunL.pure rfl rfl (OpG.plain rfl (OpP.bin (Val.of rfl) (Val.of rfl) rfl)) ?_
    refine RunL.nil ?_
    refine RunQ.then_normal ?_
    refine Run.cond rfl (fun hc2 => ?_) (fun hc2 => ?_)
    · have hgt : c < l.length + 1 := by simp only [decide_eq_true_eq] at hc2; omega
      refine Run.seq ?_
      refine Run.region' ?_
      refine RunL.pure rfl rfl (OpG.plain rfl (OpP.move (Val.of rfl))) ?_
      refine RunL.pure rfl rfl (OpG.plain rfl (OpP.move (Val.of rfl))) ?_
      refine RunL.pure rfl rfl (OpG.plain rfl (by first | exact OpP.sliceHi (Val.of rfl) (Val.of rfl) (fun _ => by omega) inferInstance ⟨_, inferInstance⟩ | exact OpP.sliceHiI (Val.of rfl) (Val.of rfl) (fun _ => by omega) (fun _ => by omega) inferInstance ⟨_, inferInstance⟩)) ?_
      refine RunL.pure rfl rfl (OpG.plain rfl (OpP.move (Val.of rfl))) ?_
      refine RunL.pure rfl rfl (OpG.plain rfl (OpP.move (Val.of rfl))) ?_
      refine RunL.pure rfl rfl (OpG.plain rfl (by first | exact OpP.add64 (Val.of rfl) (Val.of rfl) (by omega) (by omega) | exact OpP.bin (Val.of rfl) (Val.of rfl) rfl)) ?_
      refine RunL.pure rfl rfl (OpG.plain rfl (OpP.move (Val.of rfl))) ?_
      refine RunL.pure rfl rfl (OpG.plain rfl ((OpP.sub64 (Val.of rfl) (Val.of rfl) (by omega) (by omega)).to (u := i64v ((l.length + 1 - i : Nat) : Int)) (by congr 1; omega))) ?_
      refine RunL.appendZ inferInstance inferInstance inferInstance inferInstance inferInstance rfl rfl rfl Take.head (by omega) (by omega) (by omega) (by simp [maxLen]; omega) (by omega) rfl rfl fun b' cap' zs hcap1 hcap2 hzs => ?_
      have hsum : i + (l.length + 1 - i) = l.length + 1 := by omega
      rw [hsum] at hcap1
      rw [hsum]
      refine RunL.pure rfl rfl (OpG.plain rfl (OpP.assign (Val.of rfl))) ?_
      refine RunL.nil ?_
      refine RunQ.then_normal ?_
      refine Run.seq ?_
      refine Run.region' ?_
      refine RunL.pure rfl rfl (OpG.plain rfl (OpP.move (Val.of rfl))) ?_
      refine RunL.pure rfl rfl (OpG.plain rfl (OpP.move (Val.of rfl))) ?_
      refine RunL.pure rfl rfl (OpG.plain rfl ((OpP.sliceLo (i := i) (Val.of rfl) (Val.of rfl) (fun _ => by omega) inferInstance inferInstance).to (u := .slice (some ⟨b', i * 10, none⟩) (l.length + 1 - i) (cap' - i)) (by rw [slAt_off _ _ _ _ (by omega)]))) ?_
      refine RunL.pure rfl rfl (OpG.plain rfl (OpP.move (Val.of rfl))) ?_
      refine RunL.copy (k := 1) (r := ⟨some ⟨vb, 0, none⟩, 1, 1⟩) (ys := cs) inferInstance inferInstance rfl rfl rfl Take.head (SrcAt.at (Take.cons (Take.cons Take.head)) rfl (by simp [hcl]) (by intro j v hj; rw [Nat.zero_add]; simpa using hj)) hone (by dsimp only; omega) (by simp [hzs]; omega) ?_
      rw [List.take_of_length_le (show cs.length ≤ 1 * 10 by omega)]
      refine RunL.nil ?_
      refine RunQ.then_normal ?_
      refine Run.seq ?_
      apply Run.drawn 8 [_, _, _, _, _, _, _, _] (by kernel_rfl) rfl (by kernel_rfl)
      · refine FrontOk.cons (OpG.plain rfl (OpP.move (Val.of rfl))) ?_
        refine FrontOk.cons (OpG.plain rfl (OpP.move (Val.of rfl))) ?_
        refine FrontOk.cons (OpG.plain rfl (OpP.move (Val.of rfl))) ?_
        refine FrontOk.cons (OpG.plain rfl ((OpP.add64 (Val.of rfl) (Val.of rfl) (by omega) (by omega)).to (u := i64v ((i + 1 : Nat) : Int)) (by congr 1))) ?_
        refine FrontOk.cons (OpG.plain rfl ((OpP.sliceLo (i := i + 1) (Val.of rfl) (Val.of rfl) (fun _ => by omega) inferInstance inferInstance).to (u := .slice (some ⟨b', (i + 1) * 10, none⟩) (l.length + 1 - (i + 1)) (cap' - (i + 1))) (by rw [slAt_off _ _ _ _ (by omega)]))) ?_
        refine FrontOk.cons (OpG.plain rfl (OpP.move (Val.of rfl))) ?_
        refine FrontOk.cons (OpG.plain rfl (OpP.move (Val.of rfl))) ?_
        refine FrontOk.cons (OpG.plain rfl ((OpP.sliceLo (i := i) (Val.of rfl) (Val.of rfl) (fun _ => by omega) inferInstance inferInstance).to (u := .slice (some ⟨b, i * 10, none⟩) (l.length - i) (c - i)) (by rw [slAt_off _ _ _ _ (by omega)]))) ?_
        exact FrontOk.nil
      · rfl
      · rfl
      have hyl : (css.flatten.drop (i * 10)).length = (l.length - i) * 10 := by rw [List.length_drop, hX]; omega
      refine RunL.copy (k := l.length - i) (r := ⟨some ⟨b, i * 10, none⟩, l.length - i, c - i⟩) (ys := css.flatten.drop (i * 10)) inferInstance inferInstance rfl rfl rfl Take.head (SrcAt.at (Take.cons Take.head) rfl hyl (by
        intro j v hj
        rw [← hXd, List.getElem?_take] at hj
        split at hj
        · rw [List.getElem?_drop] at hj; simpa using hj
        · cases hj)) (fun u hu => hXone u (List.mem_of_mem_drop hu)) (by dsimp only; omega) (by
          rw [List.size_toArray, putAt_length _ _ _ (by simp [hzs]; omega)]; simp [hzs]; omega) ?_
      rw [List.take_of_length_le (show (css.flatten.drop (i * 10)).length ≤ (l.length - i) * 10 by omega)]
      refine RunL.nil ?_
      refine RunQ.then_normal ?_
      refine Run.seq ?_
      refine Run.region' ?_
      refine RunL.pure rfl rfl (OpG.plain rfl (OpP.move (Val.of rfl))) ?_
      refine RunL.pure rfl rfl (OpG.plain rfl (OpP.assign (Val.of rfl))) ?_
      refine RunL.nil ?_
      refine RunQ.then_normal ?_
      refine Run.ret ?_
      refine RunQ.then_ret ?_
      refine RunQ.keepL (L' := [_]) Take.head (RunQ.ret1 rfl rfl ⟨rfl, ⟨some ⟨b', 0, none⟩, l.length + 1, cap'⟩, rfl, by simp, css.take i ++ cs :: css.drop i, .inr ⟨b', _, rfl, rfl, hcap1, hcap2, ?_, ?_, ?_⟩, hfin⟩)
      · have h1 : (putAt (cur.toList.take (i * 10) ++ zs) (i * 10) cs).length = (cur.toList.take (i * 10) ++ zs).length := putAt_length _ _ _ (by simp [hzs]; omega)
        have h2 : (cur.toList.take (i * 10) ++ zs).length = cap' * 10 := by simp [hzs]; omega
        rw [List.size_toArray, putAt_length _ _ _ (by simp only [h1, h2, hyl]; omega)]
        exact h1.trans h2
      · have hg := ins_grow cur.toList zs cs (css.flatten.drop (i * 10)) (i * 10) 10 (by omega) hcl (by rw [hyl, hzs]; omega)
        rw [hyl, show i * 10 + 10 + (l.length - i) * 10 = (l.length + 1) * 10 by omega, show i * 10 + 10 = (i + 1) * 10 by omega] at hg
        rw [hflat, show css.flatten.take (i * 10) = cur.toList.take (i * 10) by rw [← htk, List.take_take, Nat.min_eq_left hA]]
        exact hg
      · rw [hfin.length, hnew]
    · have hgt : l.length + 1 ≤ c := by simp only [decide_eq_false_iff_not] at hc2; omega
      refine Run.skip ?_
      refine RunQ.then_normal ?_
      refine Run.seq ?_
      refine Run.region' ?_
      refine RunL.pure rfl rfl (OpG.plain rfl (OpP.move (Val.of rfl))) ?_
      refine RunL.pure rfl rfl (OpG.plain rfl (OpP.move (Val.of rfl))) ?_
      refine RunL.pure rfl rfl (OpG.plain rfl (OpP.move (Val.of rfl))) ?_
      refine RunL.pure rfl rfl (OpG.plain rfl ((OpP.add64 (Val.of rfl) (Val.of rfl) (by omega) (by omega)).to (u := i64v ((l.length + 1 : Nat) : Int)) (by congr 1))) ?_
      refine RunL.pure rfl rfl (OpG.plain rfl (by first | exact OpP.sliceHi (Val.of rfl) (Val.of rfl) (fun _ => by omega) inferInstance ⟨_, inferInstance⟩ | exact OpP.sliceHiI (Val.of rfl) (Val.of rfl) (fun _ => by omega) (fun _ => by omega) inferInstance ⟨_, inferInstance⟩)) ?_
      refine RunL.pure rfl rfl (OpG.plain rfl (OpP.assign (Val.of rfl))) ?_
      refine RunL.nil ?_
      refine RunQ.then_normal ?_
      refine Run.seq ?_
      refine Run.seq ?_
      refine Run.region' ?_
      refine RunL.pure rfl rfl (OpG.plain rfl (OpP.move (Val.of rfl))) ?_
      refine RunL.pure rfl rfl (OpG.plain rfl (OpP.move (Val.of rfl))) ?_
      refine RunL.pure rfl rfl (OpG.plain rfl (OpP.move (Val.of rfl))) ?_
      refine RunL.pure rfl rfl (OpG.plain rfl (OpP.move (Val.of rfl))) ?_
      refine RunL.pure rfl rfl (OpG.plain rfl ((OpP.add64 (Val.of rfl) (Val.of rfl) (by omega) (by omega)).to (u := i64v ((i + 1 : Nat) : Int)) (by congr 1))) ?_
      refine RunL.pure rfl rfl (OpG.plain rfl ((OpP.sliceLo (i := i + 1) (Val.of rfl) (Val.of rfl) (fun _ => by omega) inferInstance inferInstance).to (u := .slice (some ⟨b, (i + 1) * 10, none⟩) (l.length + 1 - (i + 1)) (c - (i + 1))) (by rw [slAt_off _ _ _ _ (by omega)]))) ?_
      refine RunL.pure rfl rfl (OpG.plain rfl (OpP.overlaps (tS := 30) (tR := 4) Tryd.func77 (by kernel_rfl) (by kernel_rfl) (by kernel_rfl) (by kernel_rfl) inferInstance inferInstance (.cons (Val.of rfl) (.cons (Val.of rfl) .nil)) (Take.two (Take.cons Take.head) Take.head) (by omega))) ?_
      refine RunL.pure rfl rfl (OpG.plain rfl (OpP.not (Val.of rfl))) ?_
      refine RunL.nil ?_
      refine RunQ.then_normal ?_
      refine Run.cond_true rfl ?_
      refine Run.seq ?_
      apply Run.drawn 8 [_, _, _, _, _, _, _, _] (by kernel_rfl) rfl (by kernel_rfl)
      · refine FrontOk.cons (OpG.plain rfl (OpP.move (Val.of rfl))) ?_
        refine FrontOk.cons (OpG.plain rfl (OpP.move (Val.of rfl))) ?_
        refine FrontOk.cons (OpG.plain rfl (OpP.move (Val.of rfl))) ?_
        refine FrontOk.cons (OpG.plain rfl ((OpP.add64 (Val.of rfl) (Val.of rfl) (by omega) (by omega)).to (u := i64v ((i + 1 : Nat) : Int)) (by congr 1))) ?_
        refine FrontOk.cons (OpG.plain rfl ((OpP.sliceLo (i := i + 1) (Val.of rfl) (Val.of rfl) (fun _ => by omega) inferInstance inferInstance).to (u := .slice (some ⟨b, (i + 1) * 10, none⟩) (l.length + 1 - (i + 1)) (c - (i + 1))) (by rw [slAt_off _ _ _ _ (by omega)]))) ?_
        refine FrontOk.cons (OpG.plain rfl (OpP.move (Val.of rfl))) ?_
        refine FrontOk.cons (OpG.plain rfl (OpP.move (Val.of rfl))) ?_
        refine FrontOk.cons (OpG.plain rfl ((OpP.sliceLo (i := i) (Val.of rfl) (Val.of rfl) (fun _ => by omega) inferInstance inferInstance).to (u := .slice (some ⟨b, i * 10, none⟩) (l.length + 1 - i) (c - i)) (by rw [slAt_off _ _ _ _ (by omega)]))) ?_
        exact FrontOk.nil
      · rfl
      · rfl
      have hyl : ((cur.toList.drop (i * 10)).take ((l.length + 1 - i) * 10)).length = (l.length + 1 - i) * 10 := by rw [List.length_take, List.length_drop, hcur]; omega
      have hyt : ((cur.toList.drop (i * 10)).take ((l.length + 1 - i) * 10)).take ((l.length - i) * 10) = (cur.toList.drop (i * 10)).take (l.length * 10 - i * 10) := by rw [List.take_take]; congr 1; omega
      refine RunL.copyT (k := l.length - i) (r := ⟨some ⟨b, i * 10, none⟩, l.length + 1 - i, c - i⟩) (ys := (cur.toList.drop (i * 10)).take ((l.length + 1 - i) * 10)) inferInstance inferInstance rfl rfl rfl Take.head (SrcAt.at Take.head rfl hyl (by
        intro j v hj
        rw [List.getElem?_take] at hj
        split at hj
        · rw [List.getElem?_drop] at hj; simpa using hj
        · cases hj)) (fun u hu => hXone u (by rw [hyt, hXd] at hu; exact List.mem_of_mem_drop hu)) (by dsimp only; omega) (by omega) ?_
      rw [hyt]
      refine RunL.nil ?_
      refine RunQ.then_normal ?_
      refine Run.seq ?_
      refine Run.region' ?_
      refine RunL.pure rfl rfl (OpG.plain rfl (OpP.move (Val.of rfl))) ?_
      refine RunL.pure rfl rfl (OpG.plain rfl (OpP.move (Val.of rfl))) ?_
      refine RunL.pure rfl rfl (OpG.plain rfl ((OpP.sliceLo (i := i) (Val.of rfl) (Val.of rfl) (fun _ => by omega) inferInstance inferInstance).to (u := .slice (some ⟨b, i * 10, none⟩) (l.length + 1 - i) (c - i)) (by rw [slAt_off _ _ _ _ (by omega)]))) ?_
      refine RunL.pure rfl rfl (OpG.plain rfl (OpP.move (Val.of rfl))) ?_
      refine RunL.copy (k := 1) (r := ⟨some ⟨vb, 0, none⟩, 1, 1⟩) (ys := cs) inferInstance inferInstance rfl rfl rfl Take.head (SrcAt.at (Take.cons Take.head) rfl (by simp [hcl]) (by intro j v hj; rw [Nat.zero_add]; simpa using hj)) hone (by dsimp only; omega) (by rw [List.size_toArray, putAt_length _ _ _ (by simp; omega)]; omega) ?_
      rw [List.take_of_length_le (show cs.length ≤ 1 * 10 by omega)]
      refine RunL.nil ?_
      refine RunQ.then_normal ?_
      refine Run.seq ?_
      refine Run.region' ?_
      refine RunL.pure rfl rfl (OpG.plain rfl (OpP.move (Val.of rfl))) ?_
      refine RunL.pure rfl rfl (OpG.plain rfl (OpP.assign (Val.of rfl))) ?_
      refine RunL.nil ?_
      refine RunQ.then_normal ?_
      refine Run.ret ?_
      refine RunQ.then_ret ?_
      refine RunQ.keepL (L' := [_]) Take.head (RunQ.ret1 rfl rfl ⟨rfl, ⟨some ⟨b, 0, none⟩, l.length + 1, c⟩, rfl, by simp, css.take i ++ cs :: css.drop i, .inr ⟨b, _, rfl, rfl, hgt, hmx, ?_, ?_, ?_⟩, hfin⟩)
      · have h1 : (putAt cur.toList ((i + 1) * 10) ((cur.toList.drop (i * 10)).take (l.length * 10 - i * 10))).length = c * 10 := by rw [putAt_length _ _ _ (by simp; omega)]; exact hcur
        rw [List.size_toArray, putAt_length _ _ _ (by simp only [h1]; omega)]
        exact h1
      · have hg := ins_place cur.toList cs (i * 10) (l.length * 10) 10 hA hcl (by omega)
        rw [show l.length * 10 + 10 = (l.length + 1) * 10 by omega, show i * 10 + 10 = (i + 1) * 10 by omega, htk] at hg
        rw [hflat]
        exact hg
      · rw [hfin.length, hnew]
theorem acts_Insert {h : GH} {s : Sl} {l : List ActM} {N : Own} {vb i : Nat} {cs : List Value} {x : ActM} (ho : OwnActs h s l N) (hx : ActR h x cs) (hi : i < l.length) (hl : l.length ≤ 4000000) :
    Ctr Tryd.prog 50 [s.v, i64v (i : Int), .slice (some ⟨vb, 0, none⟩) 1 1].toArray h (N ++ [(vb, .cells cs.toArray 41)]) fun r h' N' => h' = h ∧ ∃ s' : Sl, r = s'.v ∧ s'.p ≠ none ∧ OwnActs h s' (l.take i ++ x :: l.drop i) N' := by
  obtain ⟨b, cur, c, css, rfl, rfl, hlc, hmx, hcs, htk, hrp, hat⟩ := OwnRep.at ho (by decide) (by intro e; subst e; simp at hi)
  exact acts_Insert0 hlc hmx hcs htk hrp hx hi hl
end Go.Proofs.YtcckofgleghbgaaDoor
