/- Contracts: package oxm: Copy. -/
import Derived.Test.YtcckofgleghbgaaDoorOxmb
namespace Go.Proofs.YtcckofgleghbgaaDoor
open Go Sx
theorem two_copies (z : Value) (a b : List Value) (n : Nat) (hn : n = a.length + b.length) : putAt (putAt (repZ [z] n) 0 a) (if n = a.length then 0 else a.length) b = a ++ b := by
  subst hn
  have hr : (repZ [z] (a.length + b.length)).length = a.length + b.length := by rw [repZ_length]; simp
  rw [putAt_eq _ 0 a (by omega)]
  simp only [List.take_zero, List.nil_append, Nat.zero_add]
  split
  · rename_i h0
    have : b = [] := List.eq_nil_of_length_eq_zero (by omega)
    subst this
    rw [putAt_eq _ 0 [] (by simp)]
    simp only [List.take_zero, List.nil_append, List.length_nil, Nat.add_zero, List.drop_zero, List.append_nil]
    rw [List.drop_eq_nil_of_le (by simp [repZ_length]), List.append_nil]
  · rw [putAt_eq _ a.length b (by simp [hr])]
    rw [List.take_left, List.drop_eq_nil_of_le (by simp [hr]), List.append_nil]
abbrev copyV (o : OxmM) (b : Nat) : Sl := ⟨some ⟨b, 0, none⟩, o.val.length, o.val.length⟩
abbrev copyM (o : OxmM) (b : Nat) : Sl := ⟨some ⟨b, if o.val.length + o.mask.length = o.val.length then 0 else o.val.length, none⟩, o.mask.length, o.mask.length⟩
set_option maxHeartbeats 2000000 in
set_option maxRecDepth 100000 in
theorem oxm_Copy {h : GH} {a : OxmM} {sv sm : Sl} (ha : IsOxm h a sv sm) (hsum : a.val.length + a.mask.length ≤ 140737488355328) : Ctr Tryd.prog 35 [oxmV a sv sm].toArray h [] fun r h' N => h' = h ∧ ∃ b, r = oxmV a (copyV a b) (copyM a b) ∧ N = [(b, .cells ((a.val ++ a.mask).map u8v).toArray 5)] := by
  have hn := ha.val.n
  have hn1 := ha.mask.n
  have hs := ha.val.small
  have hs1 := ha.mask.small
  refine Ctr.weak (R := fun r h' N => h' = h ∧ ∃ b R0, r = oxmV a (copyV a b) (copyM a b) ∧ Take [(b, .cells ((a.val ++ a.mask).map u8v).toArray 5)] N R0) ?_ (fun v h' N _ ⟨h1, b, R0, h2, h3⟩ => ⟨_, R0, h3, h1, b, h2, rfl⟩)
  have hc1 : putAt (putAt (repZ [Value.int .u8 0] (sv.n + sm.n)) 0 (a.val.map u8v)) (if sv.n + sm.n = sv.n then 0 else sv.n) (a.mask.map u8v) = (a.val ++ a.mask).map u8v := by
    have := two_copies (Value.int .u8 0) (a.val.map u8v) (a.mask.map u8v) (sv.n + sm.n) (by simp [hn, hn1])
    rw [List.map_append, ← this]; simp [hn]
  have hc2 : (putAt (repZ [Value.int .u8 0] (sv.n + sm.n)) 0 (a.val.map u8v)).length = sv.n + sm.n := by rw [putAt_length _ _ _ (by simp [repZ_length, hn]), repZ_length]; simp
  have hc3 : (if sv.n + sm.n = sv.n then 0 else sv.n) + sm.n ≤ sv.n + sm.n := by split <;> omega
  refine Ctr.of_run Tryd.func35 rfl rfl rfl fun w0 => ?_
  refine Run.seq ?_
  refine Run.region' ?_
  refine RunL.boxA rfl rfl fun b1 => ?_
  refine RunL.alloc inferInstance rfl rfl fun b2 => ?_
  refine RunL.nil ?_
  refine RunQ.then_normal ?_
  refine Run.seq ?_
  refine Run.region' ?_
  refine RunL.pure rfl rfl (OpG.plain rfl (OpP.fieldAddr (Val.of rfl) inferInstance)) ?_
  refine RunL.pure rfl rfl (OpG.plain rfl (by first | exact OpP.load1 (Val.of rfl) (fun _ => .own Take.head rfl) inferInstance | exact OpP.load1 (Val.of rfl) (fun _ => .own (Take.cons Take.head) rfl) inferInstance | exact OpP.load1 (Val.of rfl) (fun _ => .own (Take.cons (Take.cons Take.head)) rfl) inferInstance | exact OpP.load1 (Val.of rfl) (fun _ => .own (Take.cons (Take.cons (Take.cons Take.head))) rfl) inferInstance | exact OpP.load1 (Val.of rfl) (fun _ => .own (Take.cons (Take.cons (Take.cons (Take.cons Take.head)))) rfl) inferInstance | exact OpP.load1 (Val.of rfl) (fun _ => .own (Take.app Take.head) rfl) inferInstance | exact OpP.load1 (Val.of rfl) (fun _ => .own (Take.app (Take.cons Take.head)) rfl) inferInstance | exact OpP.load1 (Val.of rfl) (fun _ => .own (Take.cons (Take.app Take.head)) rfl) inferInstance | exact OpP.load1 (Val.of rfl) (fun _ => .own (Take.app (Take.cons (Take.cons Take.head))) rfl) inferInstance | exact OpP.load1 (Val.of rfl) (fun _ => .own (Take.cons (Take.app (Take.cons Take.head))) rfl) inferInstance | exact OpP.load1 (Val.of rfl) (fun _ => .own (Take.cons (Take.cons (Take.app Take.head))) rfl) inferInstance | exact OpP.load1 (Val.of rfl) (fun _ => .own (Take.app (Take.cons (Take.cons (Take.cons Take.head)))) rfl) inferInstance | exact OpP.load1 (Val.of rfl) (fun _ => .own (Take.cons (Take.app (Take.cons (Take.cons Take.head)))) rfl) inferInstance | exact OpP.load1 (Val.of rfl) (fun _ => .own (Take.cons (Take.cons (Take.app (Take.cons Take.head)))) rfl) inferInstance | exact OpP.load1 (Val.of rfl) (fun _ => .own (Take.cons (Take.cons (Take.cons (Take.app Take.head)))) rfl) inferInstance | exact OpP.load1 (Val.of rfl) (fun _ => .inl (by assumption)) inferInstance)) ?_
  refine RunL.pure rfl rfl (OpG.plain rfl (OpP.lenSl (Val.of rfl) inferInstance)) ?_
  refine RunL.pure rfl rfl (OpG.plain rfl (OpP.fieldAddr (Val.of rfl) inferInstance)) ?_
  refine RunL.pure rfl rfl (OpG.plain rfl (by first | exact OpP.load1 (Val.of rfl) (fun _ => .own Take.head rfl) inferInstance | exact OpP.load1 (Val.of rfl) (fun _ => .own (Take.cons Take.head) rfl) inferInstance | exact OpP.load1 (Val.of rfl) (fun _ => .own (Take.cons (Take.cons Take.head)) rfl) inferInstance | exact OpP.load1 (Val.of rfl) (fun _ => .own (Take.cons (Take.cons (Take.cons Take.head))) rfl) inferInstance | exact OpP.load1 (Val.of rfl) (fun _ => .own (Take.cons (Take.cons (Take.cons (Take.cons Take.head)))) rfl) inferInstance | exact OpP.load1 (Val.of rfl) (fun _ => .own (Take.app Take.head) rfl) inferInstance | exact OpP.load1 (Val.of rfl) (fun _ => .own (Take.app (Take.cons Take.head)) rfl) inferInstance | exact OpP.load1 (Val.of rfl) (fun _ => .own (Take.cons (Take.app Take.head)) rfl) inferInstance | exact OpP.load1 (Val.of rfl) (fun _ => .own (Take.app (Take.cons (Take.cons Take.head))) rfl) inferInstance | exact OpP.load1 (Val.of rfl) (fun _ => .own (Take.cons (Take.app (Take.cons Take.head))) rfl) inferInstance | exact OpP.load1 (Val.of rfl) (fun _ => .own (Take.cons (Take.cons (Take.app Take.head))) rfl) inferInstance | exact OpP.load1 (Val.of rfl) (fun _ => .own (Take.app (Take.cons (Take.cons (Take.cons Take.head)))) rfl) inferInstance | exact OpP.load1 (Val.of rfl) (fun _ => .own (Take.cons (Take.app (Take.cons (Take.cons Take.head)))) rfl) inferInstance | exact OpP.load1 (Val.of rfl) (fun _ => .own (Take.cons (Take.cons (Take.app (Take.cons Take.head)))) rfl) inferInstance | exact OpP.load1 (Val.of rfl) (fun _ => .own (Take.cons (Take.cons (Take.cons (Take.app Take.head)))) rfl) inferInstance | exact OpP.load1 (Val.of rfl) (fun _ => .inl (by assumption)) inferInstance)) ?_
  refine RunL.pure rfl rfl (OpG.plain rfl (OpP.lenSl (Val.of rfl) inferInstance)) ?_
  refine RunL.pure rfl rfl (OpG.plain rfl (by first | exact OpP.add64 (Val.of rfl) (Val.of rfl) (by omega) (by omega) | exact OpP.bin (Val.of rfl) (Val.of rfl) rfl)) ?_
  refine RunL.makeSlice (m := sv.n + sm.n) (c := sv.n + sm.n) inferInstance inferInstance inferInstance inferInstance rfl rfl rfl rfl rfl (Nat.le_refl _) (by simp; omega) (by omega) fun b3 => ?_
  rw [show (Value.int IntKind.u8 0).cells.toList = [Value.int IntKind.u8 0] from rfl]
  refine RunL.pure rfl rfl (OpG.plain rfl (OpP.assign (Val.of rfl))) ?_
  refine RunL.nil ?_
  refine RunQ.then_normal ?_
  refine Run.seq ?_
  refine Run.region' ?_
  refine RunL.pure rfl rfl (OpG.plain rfl (OpP.move (Val.of rfl))) ?_
  refine RunL.pure rfl rfl (OpG.plain rfl (OpP.fieldAddr (Val.of rfl) inferInstance)) ?_
  refine RunL.pure rfl rfl (OpG.plain rfl (by first | exact OpP.load1 (Val.of rfl) (fun _ => .own Take.head rfl) inferInstance | exact OpP.load1 (Val.of rfl) (fun _ => .own (Take.cons Take.head) rfl) inferInstance | exact OpP.load1 (Val.of rfl) (fun _ => .own (Take.cons (Take.cons Take.head)) rfl) inferInstance | exact OpP.load1 (Val.of rfl) (fun _ => .own (Take.cons (Take.cons (Take.cons Take.head))) rfl) inferInstance | exact OpP.load1 (Val.of rfl) (fun _ => .own (Take.cons (Take.cons (Take.cons (Take.cons Take.head)))) rfl) inferInstance | exact OpP.load1 (Val.of rfl) (fun _ => .own (Take.app Take.head) rfl) inferInstance | exact OpP.load1 (Val.of rfl) (fun _ => .own (Take.app (Take.cons Take.head)) rfl) inferInstance | exact OpP.load1 (Val.of rfl) (fun _ => .own (Take.cons (Take.app Take.head)) rfl) inferInstance | exact OpP.load1 (Val.of rfl) (fun _ => .own (Take.app (Take.cons (Take.cons Take.head))) rfl) inferInstance | exact OpP.load1 (Val.of rfl) (fun _ => .own (Take.cons (Take.app (Take.cons Take.head))) rfl) inferInstance | exact OpP.load1 (Val.of rfl) (fun _ => .own (Take.cons (Take.cons (Take.app Take.head))) rfl) inferInstance | exact OpP.load1 (Val.of rfl) (fun _ => .own (Take.app (Take.cons (Take.cons (Take.cons Take.head)))) rfl) inferInstance | exact OpP.load1 (Val.of rfl) (fun _ => .own (Take.cons (Take.app (Take.cons (Take.cons Take.head)))) rfl) inferInstance | exact OpP.load1 (Val.of rfl) (fun _ => .own (Take.cons (Take.cons (Take.app (Take.cons Take.head)))) rfl) inferInstance | exact OpP.load1 (Val.of rfl) (fun _ => .own (Take.cons (Take.cons (Take.cons (Take.app Take.head)))) rfl) inferInstance | exact OpP.load1 (Val.of rfl) (fun _ => .inl (by assumption)) inferInstance)) ?_
  refine RunL.copy (k := sv.n) (r := sv) (ys := a.val.map u8v) inferInstance inferInstance rfl rfl rfl Take.head (SrcAt.ghost ha.val.sl) (by intro u hu; obtain ⟨c, _, rfl⟩ := List.mem_map.1 hu; rfl) (by omega) (by simp [repZ_length]) ?_
  rw [show (a.val.map u8v).take (sv.n * 1) = a.val.map u8v from List.take_of_length_le (by simp [hn])]
  refine RunL.pure rfl rfl (OpG.plain rfl (OpP.assign (Val.of rfl))) ?_
  refine RunL.nil ?_
  refine RunQ.then_normal ?_
  refine Run.seq ?_
  apply Run.drawn 5 [_, _, _, _, _] (by kernel_rfl) rfl (by kernel_rfl)
  · refine FrontOk.cons (OpG.plain rfl (OpP.move (Val.of rfl))) ?_
    refine FrontOk.cons (OpG.plain rfl (OpP.move (Val.of rfl))) ?_
    refine FrontOk.cons (OpG.plain rfl ((OpP.sliceLo (i := sv.n) (Val.of rfl) (Val.of rfl) (fun _ => by omega) inferInstance inferInstance).to (u := .slice (some ⟨b3, if sv.n + sm.n = sv.n then 0 else sv.n, none⟩) (sv.n + sm.n - sv.n) (sv.n + sm.n - sv.n)) (by rw [slAt_one]))) ?_
    refine FrontOk.cons (OpG.plain rfl (OpP.fieldAddr (Val.of rfl) inferInstance)) ?_
    refine FrontOk.cons (OpG.plain rfl (by first | exact OpP.load1 (Val.of rfl) (fun _ => .own Take.head rfl) inferInstance | exact OpP.load1 (Val.of rfl) (fun _ => .own (Take.cons Take.head) rfl) inferInstance | exact OpP.load1 (Val.of rfl) (fun _ => .own (Take.cons (Take.cons Take.head)) rfl) inferInstance | exact OpP.load1 (Val.of rfl) (fun _ => .own (Take.cons (Take.cons (Take.cons Take.head))) rfl) inferInstance | exact OpP.load1 (Val.of rfl) (fun _ => .own (Take.cons (Take.cons (Take.cons (Take.cons Take.head)))) rfl) inferInstance | exact OpP.load1 (Val.of rfl) (fun _ => .own (Take.app Take.head) rfl) inferInstance | exact OpP.load1 (Val.of rfl) (fun _ => .own (Take.app (Take.cons Take.head)) rfl) inferInstance | exact OpP.load1 (Val.of rfl) (fun _ => .own (Take.cons (Take.app Take.head)) rfl) inferInstance | exact OpP.load1 (Val.of rfl) (fun _ => .own (Take.app (Take.cons (Take.cons Take.head))) rfl) inferInstance | exact OpP.load1 (Val.of rfl) (fun _ => .own (Take.cons (Take.app (Take.cons Take.head))) rfl) inferInstance | exact OpP.load1 (Val.of rfl) (fun _ => .own (Take.cons (Take.cons (Take.app Take.head))) rfl) inferInstance | exact OpP.load1 (Val.of rfl) (fun _ => .own (Take.app (Take.cons (Take.cons (Take.cons Take.head)))) rfl) inferInstance | exact OpP.load1 (Val.of rfl) (fun _ => .own (Take.cons (Take.app (Take.cons (Take.cons Take.head)))) rfl) inferInstance | exact OpP.load1 (Val.of rfl) (fun _ => .own (Take.cons (Take.cons (Take.app (Take.cons Take.head)))) rfl) inferInstance | exact OpP.load1 (Val.of rfl) (fun _ => .own (Take.cons (Take.cons (Take.cons (Take.app Take.head)))) rfl) inferInstance | exact OpP.load1 (Val.of rfl) (fun _ => .inl (by assumption)) inferInstance)) ?_
    exact FrontOk.nil
  · rfl
  · rfl
  refine RunL.copy (k := sm.n) (r := sm) (ys := a.mask.map u8v) inferInstance inferInstance rfl rfl rfl Take.head (SrcAt.ghost ha.mask.sl) (by intro u hu; obtain ⟨c, _, rfl⟩ := List.mem_map.1 hu; rfl) (by omega) (by rw [Nat.mul_one]; simp only [List.size_toArray, hc2]; exact hc3) ?_
  rw [show (a.mask.map u8v).take (sm.n * 1) = a.mask.map u8v from List.take_of_length_le (by simp [hn1])]
  refine RunL.nil ?_
  refine RunQ.then_normal ?_
  refine Run.seq ?_
  apply Run.drawS 10 [true, true, true, true, true, true, true, true, false, false] [_, _, _, _, _, _, _, _, undef, undef] (by kernel_rfl) rfl (by kernel_rfl)
  apply Stage.act 10 [8] rfl (by kernel_rfl) (by kernel_rfl)
  · refine FrontOk.cons (OpG.plain rfl (OpP.move (Val.of rfl))) ?_
    refine FrontOk.cons (OpG.plain rfl (OpP.move (Val.of rfl))) ?_
    refine FrontOk.cons (OpG.plain rfl (OpP.move (Val.of rfl))) ?_
    refine FrontOk.cons (OpG.plain rfl (OpP.sliceHM (Val.of rfl) (Val.of rfl) (Val.of rfl) (fun _ => by omega) (fun _ => by omega) inferInstance inferInstance)) ?_
    refine FrontOk.cons (OpG.plain rfl (OpP.move (Val.of rfl))) ?_
    refine FrontOk.cons (OpG.plain rfl (OpP.move (Val.of rfl))) ?_
    refine FrontOk.cons (OpG.plain rfl ((OpP.sliceLo (i := sv.n) (Val.of rfl) (Val.of rfl) (fun _ => by omega) inferInstance inferInstance).to (u := .slice (some ⟨b3, if sv.n + sm.n = sv.n then 0 else sv.n, none⟩) (sv.n + sm.n - sv.n) (sv.n + sm.n - sv.n)) (by rw [slAt_one]))) ?_
    refine FrontOk.cons (OpG.plain rfl (OpP.fieldAddr (Val.of rfl) inferInstance)) ?_
    refine FrontOk.skip rfl ?_
    refine FrontOk.skip rfl ?_
    exact FrontOk.nil
  refine all_cons ?_ all_nil
  refine ActOk.mk 10 [true, true, true, true, true, true, true, true, true, true] [false, false, false, false, false, false, false, false, true, false] rfl rfl rfl (by first | exact OpXG.store inferInstance rfl rfl Take.head rfl rfl rfl rfl | exact OpXG.store inferInstance rfl rfl (Take.cons Take.head) rfl rfl rfl rfl | exact OpXG.store inferInstance rfl rfl (Take.cons (Take.cons Take.head)) rfl rfl rfl rfl | exact OpXG.store inferInstance rfl rfl (Take.cons (Take.cons (Take.cons Take.head))) rfl rfl rfl rfl | exact OpXG.store inferInstance rfl rfl (Take.cons (Take.cons (Take.cons (Take.cons Take.head)))) rfl rfl rfl rfl | exact OpXG.store inferInstance rfl rfl (Take.app Take.head) rfl rfl rfl rfl | exact OpXG.store inferInstance rfl rfl (Take.app (Take.cons Take.head)) rfl rfl rfl rfl | exact OpXG.store inferInstance rfl rfl (Take.cons (Take.app Take.head)) rfl rfl rfl rfl | exact OpXG.store inferInstance rfl rfl (Take.app (Take.cons (Take.cons Take.head))) rfl rfl rfl rfl | exact OpXG.store inferInstance rfl rfl (Take.cons (Take.app (Take.cons Take.head))) rfl rfl rfl rfl | exact OpXG.store inferInstance rfl rfl (Take.cons (Take.cons (Take.app Take.head))) rfl rfl rfl rfl | exact OpXG.store inferInstance rfl rfl (Take.app (Take.cons (Take.cons (Take.cons Take.head)))) rfl rfl rfl rfl | exact OpXG.store inferInstance rfl rfl (Take.cons (Take.app (Take.cons (Take.cons Take.head)))) rfl rfl rfl rfl | exact OpXG.store inferInstance rfl rfl (Take.cons (Take.cons (Take.app (Take.cons Take.head)))) rfl rfl rfl rfl | exact OpXG.store inferInstance rfl rfl (Take.cons (Take.cons (Take.cons (Take.app Take.head)))) rfl rfl rfl rfl) ?_
  rintro v8 hw8 L8 hle8 ⟨hhw8, hL8⟩
  subst hhw8 hL8
  apply Stage.goto [_, _, _, _, _, _, _, _, _, _]
  · exact ⟨rfl, rfl, rfl, rfl, rfl, rfl, rfl, rfl, trivial⟩
  · rfl
  apply Stage.last 10 rfl (by kernel_rfl) rfl rfl
  · refine FrontOk.cons (OpG.plain rfl (OpP.move (Val.of rfl))) ?_
    refine FrontOk.cons (OpG.plain rfl (OpP.move (Val.of rfl))) ?_
    refine FrontOk.cons (OpG.plain rfl (OpP.move (Val.of rfl))) ?_
    refine FrontOk.cons (OpG.plain rfl (OpP.sliceHM (Val.of rfl) (Val.of rfl) (Val.of rfl) (fun _ => by omega) (fun _ => by omega) inferInstance inferInstance)) ?_
    refine FrontOk.cons (OpG.plain rfl (OpP.move (Val.of rfl))) ?_
    refine FrontOk.cons (OpG.plain rfl (OpP.move (Val.of rfl))) ?_
    refine FrontOk.cons (OpG.plain rfl ((OpP.sliceLo (i := sv.n) (Val.of rfl) (Val.of rfl) (fun _ => by omega) inferInstance inferInstance).to (u := .slice (some ⟨b3, if sv.n + sm.n = sv.n then 0 else sv.n, none⟩) (sv.n + sm.n - sv.n) (sv.n + sm.n - sv.n)) (by rw [slAt_one]))) ?_
    refine FrontOk.cons (OpG.plain rfl (OpP.fieldAddr (Val.of rfl) inferInstance)) ?_
    refine FrontOk.done rfl ?_
    refine FrontOk.cons (OpG.plain rfl (OpP.fieldAddr (Val.of rfl) inferInstance)) ?_
    exact FrontOk.nil
  · rfl
  · rfl
  apply RunL.store inferInstance rfl rfl
  · first | exact Take.head | exact (Take.cons Take.head) | exact (Take.cons (Take.cons Take.head)) | exact (Take.cons (Take.cons (Take.cons Take.head))) | exact (Take.cons (Take.cons (Take.cons (Take.cons Take.head)))) | exact (Take.app Take.head) | exact (Take.app (Take.cons Take.head)) | exact (Take.cons (Take.app Take.head)) | exact (Take.app (Take.cons (Take.cons Take.head))) | exact (Take.cons (Take.app (Take.cons Take.head))) | exact (Take.cons (Take.cons (Take.app Take.head))) | exact (Take.app (Take.cons (Take.cons (Take.cons Take.head)))) | exact (Take.cons (Take.app (Take.cons (Take.cons Take.head)))) | exact (Take.cons (Take.cons (Take.app (Take.cons Take.head)))) | exact (Take.cons (Take.cons (Take.cons (Take.app Take.head))))
  · rfl
  · rfl
  · rfl
  · rfl
  refine RunL.nil ?_
  refine RunQ.then_normal ?_
  refine Run.seq ?_
  refine Run.region' ?_
  refine RunL.pure rfl rfl (OpG.plain rfl (by first | exact OpP.loadW (Val.of rfl) Take.head rfl inferInstance | exact OpP.loadW (Val.of rfl) (Take.cons Take.head) rfl inferInstance | exact OpP.loadW (Val.of rfl) (Take.cons (Take.cons Take.head)) rfl inferInstance | exact OpP.loadW (Val.of rfl) (Take.cons (Take.cons (Take.cons Take.head))) rfl inferInstance | exact OpP.loadW (Val.of rfl) (Take.cons (Take.cons (Take.cons (Take.cons Take.head)))) rfl inferInstance | exact OpP.loadW (Val.of rfl) (Take.app Take.head) rfl inferInstance | exact OpP.loadW (Val.of rfl) (Take.app (Take.cons Take.head)) rfl inferInstance | exact OpP.loadW (Val.of rfl) (Take.cons (Take.app Take.head)) rfl inferInstance | exact OpP.loadW (Val.of rfl) (Take.app (Take.cons (Take.cons Take.head))) rfl inferInstance | exact OpP.loadW (Val.of rfl) (Take.cons (Take.app (Take.cons Take.head))) rfl inferInstance | exact OpP.loadW (Val.of rfl) (Take.cons (Take.cons (Take.app Take.head))) rfl inferInstance | exact OpP.loadW (Val.of rfl) (Take.app (Take.cons (Take.cons (Take.cons Take.head)))) rfl inferInstance | exact OpP.loadW (Val.of rfl) (Take.cons (Take.app (Take.cons (Take.cons Take.head)))) rfl inferInstance | exact OpP.loadW (Val.of rfl) (Take.cons (Take.cons (Take.app (Take.cons Take.head)))) rfl inferInstance | exact OpP.loadW (Val.of rfl) (Take.cons (Take.cons (Take.cons (Take.app Take.head)))) rfl inferInstance | exact OpP.loadO inferInstance (Val.of rfl) Take.head rfl | exact OpP.loadO inferInstance (Val.of rfl) (Take.cons Take.head) rfl | exact OpP.loadO inferInstance (Val.of rfl) (Take.cons (Take.cons Take.head)) rfl | exact OpP.loadO inferInstance (Val.of rfl) (Take.cons (Take.cons (Take.cons Take.head))) rfl | exact OpP.loadO inferInstance (Val.of rfl) (Take.cons (Take.cons (Take.cons (Take.cons Take.head)))) rfl | exact OpP.loadO inferInstance (Val.of rfl) (Take.app Take.head) rfl | exact OpP.loadO inferInstance (Val.of rfl) (Take.app (Take.cons Take.head)) rfl | exact OpP.loadO inferInstance (Val.of rfl) (Take.cons (Take.app Take.head)) rfl | exact OpP.loadO inferInstance (Val.of rfl) (Take.app (Take.cons (Take.cons Take.head))) rfl | exact OpP.loadO inferInstance (Val.of rfl) (Take.cons (Take.app (Take.cons Take.head))) rfl | exact OpP.loadO inferInstance (Val.of rfl) (Take.cons (Take.cons (Take.app Take.head))) rfl | exact OpP.loadO inferInstance (Val.of rfl) (Take.app (Take.cons (Take.cons (Take.cons Take.head)))) rfl | exact OpP.loadO inferInstance (Val.of rfl) (Take.cons (Take.app (Take.cons (Take.cons Take.head)))) rfl | exact OpP.loadO inferInstance (Val.of rfl) (Take.cons (Take.cons (Take.app (Take.cons Take.head)))) rfl | exact OpP.loadO inferInstance (Val.of rfl) (Take.cons (Take.cons (Take.cons (Take.app Take.head)))) rfl | exact OpP.loadN (Val.of rfl) (fun _ => ReadsAll.ghost (by assumption)) rfl inferInstance)) ?_
  apply RunL.store inferInstance rfl rfl
  · first | exact Take.head | exact (Take.cons Take.head) | exact (Take.cons (Take.cons Take.head)) | exact (Take.cons (Take.cons (Take.cons Take.head))) | exact (Take.cons (Take.cons (Take.cons (Take.cons Take.head)))) | exact (Take.app Take.head) | exact (Take.app (Take.cons Take.head)) | exact (Take.cons (Take.app Take.head)) | exact (Take.app (Take.cons (Take.cons Take.head))) | exact (Take.cons (Take.app (Take.cons Take.head))) | exact (Take.cons (Take.cons (Take.app Take.head))) | exact (Take.app (Take.cons (Take.cons (Take.cons Take.head)))) | exact (Take.cons (Take.app (Take.cons (Take.cons Take.head)))) | exact (Take.cons (Take.cons (Take.app (Take.cons Take.head)))) | exact (Take.cons (Take.cons (Take.cons (Take.app Take.head))))
  · rfl
  · rfl
  · rfl
  · rfl
  refine RunL.nil ?_
  refine RunQ.then_normal ?_
  refine Run.ret ?_
  refine RunQ.retc1 rfl rfl (by first | exact CellV.many inferInstance Take.head rfl | exact CellV.many inferInstance (Take.cons Take.head) rfl | exact CellV.many inferInstance (Take.cons (Take.cons Take.head)) rfl | exact CellV.many inferInstance (Take.cons (Take.cons (Take.cons Take.head))) rfl | exact CellV.many inferInstance (Take.cons (Take.cons (Take.cons (Take.cons Take.head)))) rfl | exact CellV.many inferInstance (Take.app Take.head) rfl | exact CellV.many inferInstance (Take.app (Take.cons Take.head)) rfl | exact CellV.many inferInstance (Take.cons (Take.app Take.head)) rfl | exact CellV.many inferInstance (Take.app (Take.cons (Take.cons Take.head))) rfl | exact CellV.many inferInstance (Take.cons (Take.app (Take.cons Take.head))) rfl | exact CellV.many inferInstance (Take.cons (Take.cons (Take.app Take.head))) rfl | exact CellV.many inferInstance (Take.app (Take.cons (Take.cons (Take.cons Take.head)))) rfl | exact CellV.many inferInstance (Take.cons (Take.app (Take.cons (Take.cons Take.head)))) rfl | exact CellV.many inferInstance (Take.cons (Take.cons (Take.app (Take.cons Take.head)))) rfl | exact CellV.many inferInstance (Take.cons (Take.cons (Take.cons (Take.app Take.head)))) rfl | exact CellV.one inferInstance Take.head rfl | exact CellV.one inferInstance (Take.cons Take.head) rfl | exact CellV.one inferInstance (Take.cons (Take.cons Take.head)) rfl | exact CellV.one inferInstance (Take.cons (Take.cons (Take.cons Take.head))) rfl | exact CellV.one inferInstance (Take.cons (Take.cons (Take.cons (Take.cons Take.head)))) rfl | exact CellV.one inferInstance (Take.app Take.head) rfl | exact CellV.one inferInstance (Take.app (Take.cons Take.head)) rfl | exact CellV.one inferInstance (Take.cons (Take.app Take.head)) rfl | exact CellV.one inferInstance (Take.app (Take.cons (Take.cons Take.head))) rfl | exact CellV.one inferInstance (Take.cons (Take.app (Take.cons Take.head))) rfl | exact CellV.one inferInstance (Take.cons (Take.cons (Take.app Take.head))) rfl | exact CellV.one inferInstance (Take.app (Take.cons (Take.cons (Take.cons Take.head)))) rfl | exact CellV.one inferInstance (Take.cons (Take.app (Take.cons (Take.cons Take.head)))) rfl | exact CellV.one inferInstance (Take.cons (Take.cons (Take.app (Take.cons Take.head)))) rfl | exact CellV.one inferInstance (Take.cons (Take.cons (Take.cons (Take.app Take.head)))) rfl)  ?_
  rw [hc1]
  have e1 : sv.n + sm.n - sv.n = sm.n := by omega
  rw [e1]
  exact ⟨rfl, b3, _, by simp only [hn, hn1, Sl.v], Take.cons (Take.cons Take.head)⟩
end Go.Proofs.YtcckofgleghbgaaDoor
