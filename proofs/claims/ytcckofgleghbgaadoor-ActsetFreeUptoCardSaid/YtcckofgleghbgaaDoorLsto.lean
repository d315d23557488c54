/- Slices of our own, of things of many cells; lists of actions. -/
import Derived.Test.YtcckofgleghbgaaDoorActb
import Derived.Test.YtcckofgleghbgaaDoorSxi
namespace Go.Proofs.YtcckofgleghbgaaDoor
open Go Sx
/-- Cells, told of things. -/
structure Reps {α : Type} (size : Nat) (R : GH → α → List Value → Prop) (h : GH) (l : List α) (css : List (List Value)) : Prop where
  len : css.length = l.length
  each : ∀ cs ∈ css, cs.length = size
  rep : ∀ (i : Nat) (a : α) (cs : List Value), l[i]? = some a → css[i]? = some cs → R h a cs
/-- A slice that owns its array (or is nil), told of things. -/
def OwnRep {α : Type} (e : TypeId) (size : Nat) (R : GH → α → List Value → Prop) (h : GH) (s : Sl) (l : List α) (N : Own) : Prop := ∃ css, OwnSl e size s css.flatten N ∧ Reps size R h l css
section
variable {α : Type} {e : TypeId} {size : Nat} {R : GH → α → List Value → Prop} {h h' : GH} {s : Sl} {l : List α} {N : Own}
theorem IsRep.ofReps {css : List (List Value)} (h1 : IsSl h size s css.flatten) (h2 : Reps size R h l css) : IsRep size R h s l := ⟨css, h1, h2.len, h2.each, h2.rep⟩
theorem IsRep.reps (hs : IsRep size R h s l) : ∃ css, IsSl h size s css.flatten ∧ Reps size R h l css := let ⟨css, a, b, c, d⟩ := hs; ⟨css, a, b, c, d⟩
theorem Reps.mono {css : List (List Value)} (hs : Reps size R h l css) (hm : ∀ a cs, R h a cs → R h' a cs) : Reps size R h' l css := ⟨hs.len, hs.each, fun i a cs x y => hm _ _ (hs.rep i a cs x y)⟩
theorem OwnRep.mono (hs : OwnRep e size R h s l N) (hm : ∀ a cs, R h a cs → R h' a cs) : OwnRep e size R h' s l N := let ⟨css, a, b⟩ := hs; ⟨css, a, b.mono hm⟩
theorem Reps.nil : Reps size R h ([] : List α) [] := ⟨rfl, by simp, by simp⟩
theorem OwnRep.nil : OwnRep e size R h Sl.none ([] : List α) [] := ⟨[], OwnSl.nil, Reps.nil⟩
theorem Reps.cons {a : α} {cs : List Value} {css : List (List Value)} (h1 : R h a cs) (hl : cs.length = size) (h2 : Reps size R h l css) : Reps size R h (a :: l) (cs :: css) := by
  refine ⟨by simp [h2.len], fun c hc => ?_, fun i b c hb hc => ?_⟩
  · rcases List.mem_cons.1 hc with rfl | hc
    · exact hl
    · exact h2.each _ hc
  · cases i with
    | zero => simp at hb hc; subst hb; subst hc; exact h1
    | succ i => exact h2.rep i b c (by simpa using hb) (by simpa using hc)
theorem Reps.append {l1 : List α} {css css1 : List (List Value)} (h1 : Reps size R h l css) (h2 : Reps size R h l1 css1) : Reps size R h (l ++ l1) (css ++ css1) := by
  refine ⟨by simp [h1.len, h2.len], fun c hc => ?_, fun i b c hb hc => ?_⟩
  · rcases List.mem_append.1 hc with hc | hc
    · exact h1.each _ hc
    · exact h2.each _ hc
  · rcases Nat.lt_or_ge i l.length with hi | hi
    · rw [List.getElem?_append_left hi] at hb
      rw [List.getElem?_append_left (by rw [h1.len]; exact hi)] at hc
      exact h1.rep i b c hb hc
    · rw [List.getElem?_append_right hi] at hb
      rw [List.getElem?_append_right (by rw [h1.len]; exact hi), h1.len] at hc
      exact h2.rep _ b c hb hc
theorem Reps.one {a : α} {cs : List Value} (h1 : R h a cs) (hl : cs.length = size) : Reps size R h [a] [cs] := Reps.cons h1 hl Reps.nil
theorem Reps.take {css : List (List Value)} (hs : Reps size R h l css) (k : Nat) : Reps size R h (l.take k) (css.take k) := by
  refine ⟨by simp [hs.len], fun c hc => hs.each _ (List.mem_of_mem_take hc), fun i b c hb hc => ?_⟩
  rw [List.getElem?_take] at hb hc
  split at hb
  · rename_i hk; rw [if_pos hk] at hc; exact hs.rep i b c hb hc
  · cases hb
theorem Reps.drop {css : List (List Value)} (hs : Reps size R h l css) (k : Nat) : Reps size R h (l.drop k) (css.drop k) := by
  refine ⟨by simp [hs.len], fun c hc => hs.each _ (List.mem_of_mem_drop hc), fun i b c hb hc => ?_⟩
  rw [List.getElem?_drop] at hb hc
  exact hs.rep _ b c hb hc
theorem Reps.length {css : List (List Value)} (hs : Reps size R h l css) : css.flatten.length = l.length * size := by rw [flatten_length hs.each, hs.len]
theorem OwnRep.n (hs : OwnRep e size R h s l N) (hz : 0 < size) : s.n = l.length := by
  obtain ⟨css, h1, h2⟩ := hs
  have := OwnSl.length h1
  rw [h2.length] at this
  exact (Nat.eq_of_mul_eq_mul_right hz this).symm
theorem OwnRep.snoc {a : α} {cs : List Value} {css : List (List Value)} {s' : Sl} {N' : Own} (h2 : Reps size R h l css) (h1 : R h a cs) (hl : cs.length = size) (ho : OwnSl e size s' (css.flatten ++ cs) N') : OwnRep e size R h s' (l ++ [a]) N' :=
  ⟨css ++ [cs], by simpa using ho, h2.append (Reps.one h1 hl)⟩
/-- The cells of one thing among them. -/
theorem Reps.getCells {css : List (List Value)} (h2 : Reps size R h l css) {i : Nat} (hi : i < l.length) : ∃ cs, R h l[i] cs ∧ cs.length = size ∧ css[i]? = some cs ∧ ∀ (j : Nat) (v : Value), cs[j]? = some v → css.flatten[i * size + j]? = some v := by
  have hi' : i < css.length := by rw [h2.len]; exact hi
  have hl := h2.each _ (List.getElem_mem hi')
  refine ⟨css[i], h2.rep i _ _ (by simp [hi]) (by simp [hi']), hl, by simp [hi'], fun j v hj => ?_⟩
  have hlt := (List.getElem?_eq_some_iff.1 hj).1
  rw [← List.getElem?_drop, flatten_drop i h2.each, List.drop_eq_getElem_cons hi', List.flatten_cons, List.getElem?_append_left hlt]
  exact hj
/-- Where a slice of our own that is not empty stands, and what it holds. -/
theorem OwnRep.at (hs : OwnRep e size R h s l N) (hz : 0 < size) (hn : l ≠ []) : ∃ b cur c css, s = ⟨some ⟨b, 0, none⟩, l.length, c⟩ ∧ N = [(b, .cells cur e)] ∧ l.length ≤ c ∧ c ≤ maxLen ∧ cur.size = c * size ∧ cur.toList.take (l.length * size) = css.flatten ∧ Reps size R h l css ∧
    ∀ i (hi : i < l.length), ∃ cs, R h l[i] cs ∧ cs.length = size ∧ ∀ (j : Nat) (v : Value), cs[j]? = some v → cur[i * size + j]? = some v := by
  have hsn := hs.n hz
  obtain ⟨css, h1, h2⟩ := hs
  have hl : 0 < l.length := List.length_pos_iff.2 hn
  rcases h1 with ⟨rfl, _, _⟩ | ⟨b, cur, hp, rfl, hle, hmx, hcs, htk, hfl⟩
  · simp at hsn; omega
  · refine ⟨b, cur, s.c, css, by rw [← hsn, ← hp], rfl, by omega, hmx, hcs, by rw [← hsn]; exact htk, h2, fun i hi => ?_⟩
    obtain ⟨cs, g1, g2, g3, g4⟩ := h2.getCells hi
    refine ⟨cs, g1, g2, fun j v hj => ?_⟩
    have := g4 j v hj
    rw [← htk, List.getElem?_take] at this
    split at this
    · simpa using this
    · cases this
theorem flatten_set {css : List (List Value)} {cs : List Value} (hc : ∀ c ∈ css, c.length = size) (hl : cs.length = size) {i : Nat} (hi : i < css.length) : (css.set i cs).flatten = css.flatten.take (i * size) ++ cs ++ css.flatten.drop ((i + 1) * size) := by
  rw [flatten_take i hc, flatten_drop (i + 1) hc, List.set_eq_take_append_cons_drop, if_pos hi, List.flatten_append, List.flatten_cons, List.append_assoc]
theorem Reps.set {css : List (List Value)} {cs : List Value} {a : α} (h2 : Reps size R h l css) (h1 : R h a cs) (hl : cs.length = size) (i : Nat) : Reps size R h (l.set i a) (css.set i cs) := by
  refine ⟨by simp [h2.len], fun c hc => ?_, fun j b c hb hc => ?_⟩
  · rcases List.mem_or_eq_of_mem_set hc with hc | rfl
    · exact h2.each _ hc
    · exact hl
  · by_cases hj : i = j
    · subst hj
      rw [List.getElem?_set] at hb hc
      simp only [if_true] at hb hc
      split at hb
      · cases hb
        split at hc
        · cases hc; exact h1
        · cases hc
      · cases hb
    · rw [List.getElem?_set_ne hj] at hb hc
      exact h2.rep j b c hb hc
theorem putAt_take (xs : List Value) (o m : Nat) (cs : List Value) (h1 : o + cs.length ≤ m) (h2 : m ≤ xs.length) : (putAt xs o cs).take m = (xs.take m).take o ++ cs ++ (xs.take m).drop (o + cs.length) := by
  rw [putAt_eq _ _ _ (by omega), List.take_append, List.take_append, List.take_take, List.length_append, List.length_take, List.take_take, List.drop_take]
  rw [Nat.min_eq_right (show o ≤ m by omega), Nat.min_eq_left (show o ≤ m by omega), Nat.min_eq_left (show o ≤ xs.length by omega), List.take_of_length_le (show cs.length ≤ m - o by omega)]
/-- A thing is written into a slice of our own. -/
theorem OwnRep.put {b c i : Nat} {cur : Array Value} {css : List (List Value)} {cs : List Value} {a : α} (hlc : l.length ≤ c) (hmx : c ≤ maxLen) (hcs : cur.size = c * size) (htk : cur.toList.take (l.length * size) = css.flatten) (h2 : Reps size R h l css) (h1 : R h a cs) (hl : cs.length = size) (hi : i < l.length) :
    OwnRep e size R h ⟨some ⟨b, 0, none⟩, l.length, c⟩ (l.set i a) [(b, .cells (putAt cur.toList (i * size) cs).toArray e)] := by
  have h3 := h2.set h1 hl i
  have hle : (i + 1) * size ≤ l.length * size := Nat.mul_le_mul_right _ hi
  have hle2 : l.length * size ≤ c * size := Nat.mul_le_mul_right _ hlc
  have hsum : i * size + size = (i + 1) * size := by rw [Nat.succ_mul]
  refine ⟨css.set i cs, .inr ⟨b, _, rfl, rfl, hlc, hmx, ?_, ?_, ?_⟩, h3⟩
  · rw [List.size_toArray, putAt_length _ _ _ (by simp; omega)]; simpa using hcs
  · rw [flatten_set h2.each hl (by rw [h2.len]; exact hi), ← htk]
    have := putAt_take cur.toList (i * size) (l.length * size) cs (by rw [hl]; omega) (by simp; omega)
    rw [hl, hsum] at this
    exact this
  · have := h3.length
    simpa using this
/-- The front of a slice of our own. -/
theorem OwnRep.take (hs : OwnRep e size R h s l N) (hz : 0 < size) (k : Nat) (hk : k ≤ l.length) (hp : s.p ≠ none) : OwnRep e size R h ⟨s.p, k, s.c⟩ (l.take k) N := by
  have hsn := hs.n hz
  obtain ⟨css, h1, h2⟩ := hs
  rcases h1 with ⟨rfl, _, _⟩ | ⟨b, cur, hp, rfl, hle, hmx, hcs, htk, hfl⟩
  · exact absurd rfl hp
  · refine ⟨css.take k, .inr ⟨b, cur, hp, rfl, by simp only; omega, hmx, hcs, ?_, ?_⟩, h2.take k⟩
    · rw [← flatten_take k h2.each, ← htk, List.take_take, hsn, Nat.min_eq_left (Nat.mul_le_mul_right _ hk)]
    · rw [(h2.take k).length, List.length_take, Nat.min_eq_left hk]
end
/-- The cells of an action. -/
def ActR (h : GH) (x : ActM) (cs : List Value) : Prop := ∃ sv sm sd : Sl, cs = [i64v x.typ, u64v x.a, u64v x.b, i64v x.set.cls, i64v x.set.fld, .bool x.set.has, u64v x.set.exp, sv.v, sm.v, sd.v] ∧ IsAct h x sv sm sd
theorem ActR.mono {h h' : GH} {x : ActM} {cs : List Value} (hl : GH.le h h') (hr : ActR h x cs) : ActR h' x cs := by
  obtain ⟨sv, sm, sd, h1, h2⟩ := hr; exact ⟨sv, sm, sd, h1, h2.mono hl⟩
theorem ActR.len {h : GH} {x : ActM} {cs : List Value} (hr : ActR h x cs) : cs.length = 10 := by obtain ⟨sv, sm, sd, h1, h2⟩ := hr; rw [h1]; rfl
theorem ActR.one {h : GH} {x : ActM} {cs : List Value} (hr : ActR h x cs) : ∀ u ∈ cs, u.oneCell' = true := by
  obtain ⟨sv, sm, sd, h1, h2⟩ := hr
  subst h1
  intro u hu
  simp only [List.mem_cons, List.not_mem_nil, or_false] at hu
  rcases hu with rfl | rfl | rfl | rfl | rfl | rfl | rfl | rfl | rfl | rfl <;> rfl
structure IsActs (h : GH) (s : Sl) (l : List ActM) : Prop where
  rep : IsRep 10 ActR h s l
  small : l.length ≤ 4000000
theorem IsActs.n {h : GH} {s : Sl} {l : List ActM} (hs : IsActs h s l) : s.n = l.length := hs.rep.n (by decide)
theorem IsActs.mono {h h' : GH} {s : Sl} {l : List ActM} (hl : GH.le h h') (hs : IsActs h s l) : IsActs h' s l := ⟨hs.rep.mono (fun _ _ hr => hr.mono hl) hl, hs.small⟩
theorem IsActs.nil {h : GH} : IsActs h Sl.none [] := ⟨IsRep.nil, by simp⟩
theorem IsActs.take {h : GH} {s : Sl} {l : List ActM} (hs : IsActs h s l) (j : Nat) (hj : j ≤ l.length) : IsActs h ⟨s.p, j, s.c⟩ (l.take j) := ⟨hs.rep.take (by decide) j hj, by have := hs.small; simp; omega⟩
theorem IsActs.cut {h : GH} {s : Sl} {l : List ActM} (hs : IsActs h s l) (i j : Nat) (hij : i ≤ j) (hj : j ≤ l.length) : IsActs h ⟨slAt s.p s.c i 10, j - i, s.c - i⟩ ((l.drop i).take (j - i)) := ⟨hs.rep.cut (by decide) i j hij hj, by have := hs.small; simp; omega⟩
theorem IsActs.at {h : GH} {s : Sl} {l : List ActM} (hs : IsActs h s l) (hn : l ≠ []) : ∃ b o c, s = ⟨some ⟨b, o, none⟩, l.length, c⟩ ∧ l.length ≤ c ∧ ∀ i (hi : i < l.length), ∃ sv sm sd : Sl, IsAct h l[i] sv sm sd ∧ Cells h b (o + i * 10) [i64v l[i].typ, u64v l[i].a, u64v l[i].b, i64v l[i].set.cls, i64v l[i].set.fld, .bool l[i].set.has, u64v l[i].set.exp, sv.v, sm.v, sd.v] := by
  obtain ⟨b, o, c, h1, h2, h3⟩ := hs.rep.at (by decide) hn
  refine ⟨b, o, c, h1, h2, fun i hi => ?_⟩
  obtain ⟨cs, ⟨sv, sm, sd, rfl, ho⟩, hc⟩ := h3 i hi
  exact ⟨sv, sm, sd, ho, hc⟩
abbrev OwnActs (h : GH) (s : Sl) (l : List ActM) (N : Own) : Prop := OwnRep 41 10 ActR h s l N
theorem OwnActs.mono {h h' : GH} {s : Sl} {l : List ActM} {N : Own} (hl : GH.le h h') (hs : OwnActs h s l N) : OwnActs h' s l N := OwnRep.mono hs fun _ _ hr => hr.mono hl
/-- A copy that nobody writes, of an action. -/
def ActSmall (x : ActM) : Prop := x.set.val.length + x.set.mask.length ≤ 140737488355328
theorem action_CopyI {h : GH} {x : ActM} {sv sm sd : Sl} (hx : IsAct h x sv sm sd) (hsum : ActSmall x) : Ctr Tryd.prog 49 [actV x sv sm sd].toArray h [] fun r h' N => N = [] ∧ ∃ sv' sm' sd' : Sl, r = actV x sv' sm' sd' ∧ IsAct h' x sv' sm' sd' := by
  have hsm := hx.data.small
  have h1 : Ctr Tryd.prog 49 [actV x sv sm sd].toArray h [] fun r h' N => ∃ (b : Nat) (sv' sm' : Sl), r = actV x sv' sm' ⟨some ⟨b, 0, none⟩, x.data.length, x.data.length⟩ ∧ IsOxm h' x.set sv' sm' ∧ N = [(b, .cells (x.data.map u8v).toArray 5)] :=
    Ctr.freeze1 (action_Copy hx hsum) fun v h' N _ ⟨_, b, c, hv, hN⟩ => ⟨c, .cells ((x.set.val ++ x.set.mask).map u8v).toArray 5, _, by rw [hN]; exact Take.head, fun h'' _ hb => ⟨b, _, _, hv, .copied hsum hb, rfl⟩⟩
  exact Ctr.freeze1 h1 fun v h' N _ ⟨b, sv', sm', hv, ho, hN⟩ => ⟨b, .cells (x.data.map u8v).toArray 5, [], by rw [hN]; exact Take.whole, fun h'' hle hb => ⟨rfl, sv', sm', _, hv, ho.mono hle, ⟨IsSl.block hb (by simp) (by simp [maxLen]; omega), hsm⟩⟩⟩
end Go.Proofs.YtcckofgleghbgaaDoor
