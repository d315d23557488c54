/- Slices of things of many cells. -/
import Derived.Test.YtcckofgleghbgaaDoorOxmc
namespace Go.Proofs.YtcckofgleghbgaaDoor
open Go Sx
/-- The things of a slice: each has so many cells, of which R tells what thing they are. -/
def IsRep {α : Type} (size : Nat) (R : GH → α → List Value → Prop) (h : GH) (s : Sl) (l : List α) : Prop :=
  ∃ css : List (List Value), IsSl h size s css.flatten ∧ css.length = l.length ∧ (∀ cs ∈ css, cs.length = size) ∧ ∀ (i : Nat) (a : α) (cs : List Value), l[i]? = some a → css[i]? = some cs → R h a cs
theorem flatten_length {size : Nat} : ∀ {css : List (List Value)}, (∀ cs ∈ css, cs.length = size) → css.flatten.length = css.length * size
  | [], _ => by simp
  | c :: css, hc => by
    rw [List.flatten_cons, List.length_append, flatten_length fun cs hcs => hc cs (List.mem_cons_of_mem _ hcs), hc c (List.mem_cons_self ..), List.length_cons, Nat.succ_mul, Nat.add_comm]
theorem flatten_drop {size : Nat} : ∀ {css : List (List Value)} (k : Nat), (∀ cs ∈ css, cs.length = size) → css.flatten.drop (k * size) = (css.drop k).flatten
  | [], k, _ => by simp
  | c :: css, 0, _ => by simp
  | c :: css, k + 1, hc => by
    rw [List.flatten_cons, List.drop_succ_cons, ← flatten_drop k fun cs hcs => hc cs (List.mem_cons_of_mem _ hcs), Nat.succ_mul, Nat.add_comm, ← hc c (List.mem_cons_self ..), List.drop_append, List.drop_eq_nil_of_le (by omega), List.nil_append]
    congr 1; omega
theorem flatten_take {size : Nat} : ∀ {css : List (List Value)} (k : Nat), (∀ cs ∈ css, cs.length = size) → css.flatten.take (k * size) = (css.take k).flatten
  | [], k, _ => by simp
  | c :: css, 0, _ => by simp
  | c :: css, k + 1, hc => by
    have hl := hc c (List.mem_cons_self ..)
    rw [List.flatten_cons, List.take_succ_cons, List.flatten_cons, ← flatten_take k fun cs hcs => hc cs (List.mem_cons_of_mem _ hcs), Nat.succ_mul, List.take_append, List.take_of_length_le (by omega)]
    congr 2; omega
section
variable {α : Type} {size : Nat} {R : GH → α → List Value → Prop} {h h' : GH} {s : Sl} {l : List α}
theorem IsRep.n (hs : IsRep size R h s l) (hz : 0 < size) : s.n = l.length := by
  obtain ⟨css, h1, h2, h3, _⟩ := hs
  have := h1.len
  rw [flatten_length h3, h2] at this
  exact (Nat.eq_of_mul_eq_mul_right hz this).symm
theorem IsRep.mono (hs : IsRep size R h s l) (hm : ∀ a cs, R h a cs → R h' a cs) (hl : GH.le h h') : IsRep size R h' s l := by
  obtain ⟨css, h1, h2, h3, h4⟩ := hs
  exact ⟨css, h1.mono hl, h2, h3, fun i a cs ha hc => hm _ _ (h4 i a cs ha hc)⟩
theorem IsRep.nil : IsRep size R h Sl.none [] := ⟨[], .nilSl, rfl, by simp, by simp⟩
theorem IsRep.at (hs : IsRep size R h s l) (hz : 0 < size) (hn : l ≠ []) : ∃ b o c, s = ⟨some ⟨b, o, none⟩, l.length, c⟩ ∧ l.length ≤ c ∧ ∀ i (hi : i < l.length), ∃ cs, R h l[i] cs ∧ Cells h b (o + i * size) cs := by
  have hsn := hs.n hz
  obtain ⟨css, h1, h2, h3, h4⟩ := hs
  have hl : 0 < l.length := List.length_pos_iff.2 hn
  obtain ⟨b, o, hse, hc⟩ := h1.addr (by omega)
  refine ⟨b, o, s.c, by rw [← hsn]; exact hse, by rw [← hsn]; exact h1.le, fun i hi => ?_⟩
  have hi' : i < css.length := by omega
  refine ⟨css[i], h4 i _ _ (by simp [hi]) (by simp [hi']), fun j v hj => ?_⟩
  rw [Nat.add_assoc]
  refine hc (i * size + j) v ?_
  have e1 : css.flatten.drop (i * size) = css[i] ++ (css.drop (i + 1)).flatten := by
    rw [flatten_drop i h3, List.drop_eq_getElem_cons hi', List.flatten_cons]
  have := (List.getElem?_eq_some_iff.1 hj).1
  rw [← List.getElem?_drop, e1, List.getElem?_append_left this]
  exact hj
theorem IsRep.cut (hs : IsRep size R h s l) (hz : 0 < size) (i j : Nat) (hij : i ≤ j) (hj : j ≤ l.length) : IsRep size R h ⟨slAt s.p s.c i size, j - i, s.c - i⟩ ((l.drop i).take (j - i)) := by
  have hsn := hs.n hz
  obtain ⟨css, h1, h2, h3, h4⟩ := hs
  have := h1.cut i j hij (by omega)
  refine ⟨(css.drop i).take (j - i), ?_, by simp; omega, fun cs hcs => h3 cs (List.mem_of_mem_drop (List.mem_of_mem_take hcs)), fun k a cs ha hc => ?_⟩
  · rw [flatten_drop i h3, flatten_take (j - i) fun cs hcs => h3 cs (List.mem_of_mem_drop hcs)] at this
    exact this
  · have hk : k < j - i := by
      have := (List.getElem?_eq_some_iff.1 ha).1
      simp at this; omega
    rw [List.getElem?_take_of_lt hk, List.getElem?_drop] at ha hc
    exact h4 _ a cs ha hc
theorem IsRep.take (hs : IsRep size R h s l) (hz : 0 < size) (j : Nat) (hj : j ≤ l.length) : IsRep size R h ⟨s.p, j, s.c⟩ (l.take j) := by
  have hsn := hs.n hz
  obtain ⟨css, h1, h2, h3, h4⟩ := hs
  refine ⟨css.take j, ⟨?_, by have := h1.le; simp; omega, h1.max, ?_, h1.nil, h1.spot⟩, by simp; omega, fun cs hcs => h3 cs (List.mem_of_mem_take hcs), fun k a cs ha hc => ?_⟩
  · rw [flatten_length fun cs hcs => h3 cs (List.mem_of_mem_take hcs), List.length_take, Nat.min_eq_left (by omega)]
  · rcases h1.cells with h0 | ⟨b, o, hp, hc⟩
    · left; simp; omega
    · right
      refine ⟨b, o, hp, fun k v hk => hc k v ?_⟩
      rw [← flatten_take j h3] at hk
      have hlt := (List.getElem?_eq_some_iff.1 hk).1
      rw [List.getElem?_take_of_lt (by simp at hlt; omega)] at hk
      exact hk
  · have hk : k < j := by
      have := (List.getElem?_eq_some_iff.1 ha).1
      simp at this; omega
    rw [List.getElem?_take_of_lt hk] at ha hc
    exact h4 _ a cs ha hc
end
/-- The cells of a field with its value. -/
def OxmR (h : GH) (o : OxmM) (cs : List Value) : Prop := ∃ sv sm : Sl, cs = [i64v o.cls, i64v o.fld, .bool o.has, u64v o.exp, sv.v, sm.v] ∧ IsOxm h o sv sm
structure IsOxms (h : GH) (s : Sl) (l : List OxmM) : Prop where
  rep : IsRep 6 OxmR h s l
  small : l.length ≤ 4000000
theorem IsOxms.n {h : GH} {s : Sl} {l : List OxmM} (hs : IsOxms h s l) : s.n = l.length := hs.rep.n (by decide)
theorem OxmR.mono {h h' : GH} {o : OxmM} {cs : List Value} (hl : GH.le h h') (hr : OxmR h o cs) : OxmR h' o cs := by
  obtain ⟨sv, sm, h1, h2⟩ := hr; exact ⟨sv, sm, h1, h2.mono hl⟩
theorem IsOxms.mono {h h' : GH} {s : Sl} {l : List OxmM} (hl : GH.le h h') (hs : IsOxms h s l) : IsOxms h' s l := ⟨hs.rep.mono (fun _ _ hr => hr.mono hl) hl, hs.small⟩
theorem IsOxms.nil {h : GH} : IsOxms h Sl.none [] := ⟨IsRep.nil, by simp⟩
theorem IsOxms.take {h : GH} {s : Sl} {l : List OxmM} (hs : IsOxms h s l) (j : Nat) (hj : j ≤ l.length) : IsOxms h ⟨s.p, j, s.c⟩ (l.take j) := ⟨hs.rep.take (by decide) j hj, by have := hs.small; simp; omega⟩
theorem IsOxms.at {h : GH} {s : Sl} {l : List OxmM} (hs : IsOxms h s l) (hn : l ≠ []) : ∃ b o c, s = ⟨some ⟨b, o, none⟩, l.length, c⟩ ∧ l.length ≤ c ∧ ∀ i (hi : i < l.length), ∃ sv sm : Sl, IsOxm h l[i] sv sm ∧ Cells h b (o + i * 6) [i64v l[i].cls, i64v l[i].fld, .bool l[i].has, u64v l[i].exp, sv.v, sm.v] := by
  obtain ⟨b, o, c, h1, h2, h3⟩ := hs.rep.at (by decide) hn
  refine ⟨b, o, c, h1, h2, fun i hi => ?_⟩
  obtain ⟨cs, ⟨sv, sm, rfl, ho⟩, hc⟩ := h3 i hi
  exact ⟨sv, sm, ho, hc⟩
end Go.Proofs.YtcckofgleghbgaaDoor
