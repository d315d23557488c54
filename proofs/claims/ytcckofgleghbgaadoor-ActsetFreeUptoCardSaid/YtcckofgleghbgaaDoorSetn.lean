/- Plain laws: how many actions a set has; what is done by a set; actions are the same. -/
import Derived.Test.YtcckofgleghbgaaDoorSetm
namespace Go.Proofs.YtcckofgleghbgaaDoor
open Go Sx
theorem oxmSame_eq (a b : OxmM) : oxmSame a b = decide (a = b) := by
  obtain ⟨a1, a2, a3, a4, a5, a6⟩ := a
  obtain ⟨b1, b2, b3, b4, b5, b6⟩ := b
  rw [Bool.eq_iff_iff]
  simp only [oxmSame, oxmAlike, Bool.and_eq_true, beq_iff_eq, decide_eq_true_eq, OxmM.mk.injEq]
  exact ⟨fun ⟨⟨⟨⟨⟨h1, h2⟩, h3⟩, h4⟩, h5⟩, h6⟩ => ⟨h1, h2, h4, h3, h5, h6⟩, fun ⟨h1, h2, h4, h3, h5, h6⟩ => ⟨⟨⟨⟨⟨h1, h2⟩, h3⟩, h4⟩, h5⟩, h6⟩⟩
theorem actSame_eq (a b : ActM) : actSame a b = decide (a = b) := by
  obtain ⟨a1, a2, a3, a4, a5⟩ := a
  obtain ⟨b1, b2, b3, b4, b5⟩ := b
  rw [Bool.eq_iff_iff]
  simp only [actSame, oxmSame_eq, Bool.and_eq_true, beq_iff_eq, decide_eq_true_eq, ActM.mk.injEq]
  exact ⟨fun ⟨⟨⟨⟨h1, h2⟩, h3⟩, h4⟩, h5⟩ => ⟨h1, h2, h3, h4, h5⟩, fun ⟨h1, h2, h3, h4, h5⟩ => ⟨⟨⟨⟨h1, h2⟩, h3⟩, h4⟩, h5⟩⟩
theorem actsSame_eq : ∀ (l m : List ActM), actsSame l m = decide (l = m)
  | [], [] => by simp [actsSame]
  | [], _ :: _ => by simp [actsSame]
  | _ :: _, [] => by simp [actsSame]
  | a :: l, b :: m => by
    rw [actsSame, actSame_eq, actsSame_eq l m, Bool.eq_iff_iff]
    simp
theorem actsSame_refl (l : List ActM) : actsSame l l = true := by rw [actsSame_eq]; simp
def ixOf (t f : Int) : Int :=
  if t = 12 then 0 else if t = 18 then 1 else if t = 20 then 2 else if t = 27 then 3 else if t = 19 then 4 else if t = 26 then 5 else if t = 17 then 6 else if t = 11 then 7 else if t = 16 then 8 else if t = 24 then 9
  else if t = 15 then 10 else if t = 23 then 11 else if t = 25 then f + 9 else if t = 21 then 48 else if t = 22 then 49 else 50
theorem rank_types {t : Int} (h : rankOf t > 0) : t = 0 ∨ t = 22 ∨ t = 21 ∨ t = 15 ∨ t = 23 ∨ t = 25 ∨ t = 16 ∨ t = 24 ∨ t = 11 ∨ t = 17 ∨ t = 26 ∨ t = 19 ∨ t = 18 ∨ t = 20 ∨ t = 27 ∨ t = 12 := by
  unfold rankOf at h
  simp only [beq_iff_eq, Bool.or_eq_true] at h
  repeat' split at h
  all_goals omega
theorem may_types {x : ActM} (h : actMay x = true) : rankOf x.typ > 0 ∧ (x.typ = 25 → 3 ≤ x.set.fld ∧ x.set.fld ≤ 38) := by
  unfold actMay at h
  simp only [Bool.and_eq_true, decide_eq_true_eq] at h
  refine ⟨h.1, fun ht => ?_⟩
  have h2 := h.2
  unfold actRight at h2
  rw [ht] at h2
  simp only [beq_self_eq_true, if_true, Bool.and_eq_true, actSettable, fset, fis, decide_eq_true_eq, bne_iff_ne, ne_eq] at h2
  omega
theorem ix_range {x : ActM} (h : actMay x = true) : 0 ≤ ixOf x.typ x.set.fld ∧ ixOf x.typ x.set.fld ≤ 50 := by
  obtain ⟨h1, h2⟩ := may_types h
  unfold ixOf
  repeat' split
  all_goals first | omega | (have := h2 ‹_›; omega)
set_option maxHeartbeats 4000000 in
theorem ix_mono {x y : ActM} (hx : actMay x = true) (hy : actMay y = true) (h : plt (placeOf x) (placeOf y)) : ixOf x.typ x.set.fld < ixOf y.typ y.set.fld := by
  obtain ⟨h1, h2⟩ := may_types hx
  obtain ⟨g1, g2⟩ := may_types hy
  have hr := rank_types h1
  have gr := rank_types g1
  unfold plt placeOf at h
  simp only at h
  rcases hr with e | e | e | e | e | e | e | e | e | e | e | e | e | e | e | e <;> rw [e] at h h2 ⊢ <;>
  rcases gr with f | f | f | f | f | f | f | f | f | f | f | f | f | f | f | f <;> rw [f] at h g2 ⊢ <;>
    simp [rankOf, ixOf] at h h2 g2 ⊢ <;> omega
theorem count_up : ∀ (d : List ActM) (lo : Int), (∀ x ∈ d, lo ≤ ixOf x.typ x.set.fld ∧ ixOf x.typ x.set.fld ≤ 50) → d.Pairwise (fun x y => ixOf x.typ x.set.fld < ixOf y.typ y.set.fld) → lo ≤ 51 → (d.length : Int) ≤ 51 - lo
  | [], lo, _, _, h => by simp; omega
  | x :: d, lo, h1, h2, h => by
    obtain ⟨g1, g2⟩ := List.pairwise_cons.1 h2
    have hx := h1 x (List.mem_cons_self ..)
    have := count_up d (ixOf x.typ x.set.fld + 1) (fun y hy => ⟨by have := g1 y hy; omega, (h1 y (List.mem_cons_of_mem _ hy)).2⟩) g2 (by omega)
    simp only [List.length_cons]
    omega
theorem set_51 {d : List ActM} (hd : setRight d = true) : d.length ≤ 51 := by
  obtain ⟨h1, h2⟩ := (setRight_iff d).1 hd
  have h3 : d.Pairwise (fun x y => ixOf x.typ x.set.fld < ixOf y.typ y.set.fld) := by
    refine h2.imp_of_mem fun {x y} hx hy hxy => ix_mono (h1 x hx) (h1 y hy) hxy
  have := count_up d 0 (fun x hx => ix_range (h1 x hx)) h3 (by decide)
  omega
/-- Two actions of unlike types, in whichever order. -/
theorem set_free {s : List ActM} {a b : ActM} (hs : srt s) (hne : a.typ ≠ b.typ) : setFold s [a, b] = setFold s [b, a] := by
  refine srt_ext (setFold_srt hs) (setFold_srt hs) fun p => ?_
  rw [setFold_get hs, setFold_get hs]
  have hp : placeOf a ≠ placeOf b := fun e => hne (congrArg PlaceM.kind e)
  unfold lastP
  simp only [List.reverse_cons, List.reverse_nil, List.nil_append, List.singleton_append, getP_cons]
  by_cases h1 : placeOf a = p
  · have h2 : ¬ placeOf b = p := fun e => hp (h1.trans e.symm)
    simp [h1, h2, getP]
  · by_cases h2 : placeOf b = p <;> simp [h1, h2, getP]
theorem may_pair (a b : ActM) : ([a, b].any fun x => !actMay x) = ([b, a].any fun x => !actMay x) := by
  simp only [List.any_cons, List.any_nil, Bool.or_false]
  exact Bool.or_comm _ _
theorem setWrite_free {s : List ActM} {a b : ActM} : (setWrite s [a, b]).2 = (setWrite s [b, a]).2 ∧ (a.typ ≠ b.typ → (setWrite s [a, b]).1 = (setWrite s [b, a]).1) := by
  unfold setWrite
  rw [may_pair a b]
  split
  · exact ⟨rfl, fun _ => rfl⟩
  · rename_i h
    simp only [Bool.or_eq_true, Bool.not_eq_true', not_or, Bool.not_eq_false] at h
    exact ⟨rfl, fun hne => set_free ((setRight_iff s).1 h.1).2 hne⟩
theorem drop_one : ∀ {d : List ActM}, srt d → (d.filter fun x => !(x.typ == 0)).length + 1 ≥ d.length
  | [], _ => by simp
  | x :: d, hd => by
    obtain ⟨h1, h2⟩ := List.pairwise_cons.1 hd
    by_cases hx : x.typ = 0
    · have hall : d.filter (fun x => !(x.typ == 0)) = d := by
        rw [List.filter_eq_self]
        intro y hy
        have := h1 y hy
        have hne : ¬ y.typ = 0 := fun hy0 => plt_irrefl (placeOf x) (by
          have e : placeOf y = placeOf x := by simp [placeOf, hx, hy0]
          rwa [e] at this)
        simp [hne]
      rw [List.filter_cons_of_neg (by simp [hx]), hall]; simp
    · rw [List.filter_cons_of_pos (by simp [hx])]
      have := drop_one h2
      simp only [List.length_cons]; omega
theorem setPlan_short {l : List ActM} (h : setRight l = true ∨ l = []) : (setPlan l).length + 1 ≥ l.length := by
  rcases h with h | rfl
  · unfold setPlan
    rw [h]
    simp only [Bool.not_true, Bool.false_eq_true, if_false]
    split
    · exact drop_one ((setRight_iff l).1 h).2
    · omega
  · simp
theorem setPlan_ranks (l : List ActM) : (setPlan l).Pairwise fun x y => rankOf x.typ ≤ rankOf y.typ := by
  unfold setPlan
  split
  · exact List.Pairwise.nil
  · rename_i h
    have hs : srt l := ((setRight_iff l).1 (by simpa using h)).2
    have h2 : l.Pairwise fun x y => rankOf x.typ ≤ rankOf y.typ := hs.imp fun {x y} hxy => by
      unfold plt placeOf at hxy
      simp only at hxy
      omega
    split
    · exact h2.filter _
    · exact h2
theorem setPlan_group {l : List ActM} (h : actsHas l 22 = true) : ∀ x ∈ setPlan l, ¬ x.typ = 0 := by
  intro x hx
  unfold setPlan at hx
  split at hx
  · cases hx
  · simpa using (List.mem_filter.1 hx).2
end Go.Proofs.YtcckofgleghbgaaDoor
