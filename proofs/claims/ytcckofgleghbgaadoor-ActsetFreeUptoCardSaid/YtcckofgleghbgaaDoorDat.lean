/- Data: how bytes, numbers, fields and actions lie in memory. -/
import Derived.Test.YtcckofgleghbgaaDoorSxg
namespace Go.Proofs.YtcckofgleghbgaaDoor
open Go Sx
abbrev ptr (b : Nat) : Value := .pointer (some ⟨b, 0, none⟩)
structure IsBytes (h : GH) (s : Sl) (l : List UInt8) : Prop where
  sl : IsSl h 1 s (l.map u8v)
  small : l.length ≤ 140737488355328
structure IsNums (h : GH) (s : Sl) (l : List UInt64) : Prop where
  sl : IsSl h 1 s (l.map u64v)
  small : l.length ≤ 17592186044416
structure IsInts (h : GH) (s : Sl) (l : List Int) : Prop where
  sl : IsSl h 1 s (l.map i64v)
  small : l.length ≤ 17592186044416
section
variable {h h' : GH} {s : Sl}
theorem IsBytes.mono {l : List UInt8} (hl : GH.le h h') (hb : IsBytes h s l) : IsBytes h' s l := ⟨hb.sl.mono hl, hb.small⟩
theorem IsNums.mono {l : List UInt64} (hl : GH.le h h') (hb : IsNums h s l) : IsNums h' s l := ⟨hb.sl.mono hl, hb.small⟩
theorem IsInts.mono {l : List Int} (hl : GH.le h h') (hb : IsInts h s l) : IsInts h' s l := ⟨hb.sl.mono hl, hb.small⟩
theorem IsBytes.n {l : List UInt8} (hb : IsBytes h s l) : s.n = l.length := by have := hb.sl.len; simp at this; omega
theorem IsNums.n {l : List UInt64} (hb : IsNums h s l) : s.n = l.length := by have := hb.sl.len; simp at this; omega
theorem IsInts.n {l : List Int} (hb : IsInts h s l) : s.n = l.length := by have := hb.sl.len; simp at this; omega
theorem IsBytes.nilb : IsBytes h Sl.none [] := ⟨.nilSl, by simp⟩
theorem IsNums.niln : IsNums h Sl.none [] := ⟨.nilSl, by simp⟩
/-- Where there is an element there is an address. -/
theorem Sx.IsSl.addr {size : Nat} {xs : List Value} (hs : IsSl h size s xs) (hn : 0 < s.n) : ∃ b o, s = ⟨some ⟨b, o, none⟩, s.n, s.c⟩ ∧ Cells h b o xs := by
  rcases hs.cells with h0 | ⟨b, o, hp, hc⟩
  · omega
  · refine ⟨b, o, ?_, hc⟩
    cases s; simp at hp; simp [hp]
theorem IsBytes.at {l : List UInt8} (hb : IsBytes h s l) (hn : l ≠ []) : ∃ b o c, s = ⟨some ⟨b, o, none⟩, l.length, c⟩ ∧ l.length ≤ c ∧ ∀ i (hi : i < l.length), h.cell b (o + i * 1) = some (u8v l[i]) := by
  have hl : 0 < l.length := List.length_pos_iff.2 hn
  obtain ⟨b, o, hs, hc⟩ := hb.sl.addr (by rw [hb.n]; exact hl)
  refine ⟨b, o, s.c, by rw [← hb.n]; exact hs, by rw [← hb.n]; exact hb.sl.le, fun i hi => ?_⟩
  rw [Nat.mul_one]
  exact hc i _ (by simp [hi])
theorem IsNums.at {l : List UInt64} (hb : IsNums h s l) (hn : l ≠ []) : ∃ b o c, s = ⟨some ⟨b, o, none⟩, l.length, c⟩ ∧ l.length ≤ c ∧ ∀ i (hi : i < l.length), h.cell b (o + i * 1) = some (u64v l[i]) := by
  have hl : 0 < l.length := List.length_pos_iff.2 hn
  obtain ⟨b, o, hs, hc⟩ := hb.sl.addr (by rw [hb.n]; exact hl)
  refine ⟨b, o, s.c, by rw [← hb.n]; exact hs, by rw [← hb.n]; exact hb.sl.le, fun i hi => ?_⟩
  rw [Nat.mul_one]
  exact hc i _ (by simp [hi])
theorem IsInts.at {l : List Int} (hb : IsInts h s l) (hn : l ≠ []) : ∃ b o c, s = ⟨some ⟨b, o, none⟩, l.length, c⟩ ∧ l.length ≤ c ∧ ∀ i (hi : i < l.length), h.cell b (o + i * 1) = some (i64v l[i]) := by
  have hl : 0 < l.length := List.length_pos_iff.2 hn
  obtain ⟨b, o, hs, hc⟩ := hb.sl.addr (by rw [hb.n]; exact hl)
  refine ⟨b, o, s.c, by rw [← hb.n]; exact hs, by rw [← hb.n]; exact hb.sl.le, fun i hi => ?_⟩
  rw [Nat.mul_one]
  exact hc i _ (by simp [hi])
theorem IsBytes.cut {l : List UInt8} (hb : IsBytes h s l) (i j : Nat) (hij : i ≤ j) (hj : j ≤ l.length) : IsBytes h ⟨slAt s.p s.c i 1, j - i, s.c - i⟩ ((l.drop i).take (j - i)) := by
  have := hb.sl.cut i j hij (by rw [hb.n]; exact hj)
  refine ⟨?_, by have := hb.small; simp; omega⟩
  simpa using this
theorem IsNums.cut {l : List UInt64} (hb : IsNums h s l) (i j : Nat) (hij : i ≤ j) (hj : j ≤ l.length) : IsNums h ⟨slAt s.p s.c i 1, j - i, s.c - i⟩ ((l.drop i).take (j - i)) := by
  have := hb.sl.cut i j hij (by rw [hb.n]; exact hj)
  refine ⟨?_, by have := hb.small; simp; omega⟩
  simpa using this
theorem IsInts.cut {l : List Int} (hb : IsInts h s l) (i j : Nat) (hij : i ≤ j) (hj : j ≤ l.length) : IsInts h ⟨slAt s.p s.c i 1, j - i, s.c - i⟩ ((l.drop i).take (j - i)) := by
  have := hb.sl.cut i j hij (by rw [hb.n]; exact hj)
  refine ⟨?_, by have := hb.small; simp; omega⟩
  simpa using this
theorem IsBytes.drop {l : List UInt8} (hb : IsBytes h s l) (i : Nat) (hi : i ≤ l.length) : IsBytes h ⟨slAt s.p s.c i 1, s.n - i, s.c - i⟩ (l.drop i) := by
  have := hb.cut i l.length hi (Nat.le_refl _)
  rw [List.take_of_length_le (by simp)] at this
  rw [hb.n]; exact this
theorem IsNums.drop {l : List UInt64} (hb : IsNums h s l) (i : Nat) (hi : i ≤ l.length) : IsNums h ⟨slAt s.p s.c i 1, s.n - i, s.c - i⟩ (l.drop i) := by
  have := hb.cut i l.length hi (Nat.le_refl _)
  rw [List.take_of_length_le (by simp)] at this
  rw [hb.n]; exact this
theorem IsBytes.take {l : List UInt8} (hb : IsBytes h s l) (j : Nat) (hj : j ≤ l.length) : IsBytes h ⟨s.p, j, s.c⟩ (l.take j) := by
  have h1 := hb.n
  have h2 := hb.sl.le
  refine ⟨⟨by simp; omega, by simp; omega, hb.sl.max, ?_, hb.sl.nil, hb.sl.spot⟩, by have := hb.small; simp; omega⟩
  rcases hb.sl.cells with h0 | ⟨b, o, hp, hc⟩
  · left; simp; omega
  · refine .inr ⟨b, o, hp, fun i v hv => hc i v ?_⟩
    rw [List.map_take, List.getElem?_take] at hv
    split at hv
    · exact hv
    · cases hv
theorem IsNums.take {l : List UInt64} (hb : IsNums h s l) (j : Nat) (hj : j ≤ l.length) : IsNums h ⟨s.p, j, s.c⟩ (l.take j) := by
  have h1 := hb.n
  have h2 := hb.sl.le
  refine ⟨⟨by simp; omega, by simp; omega, hb.sl.max, ?_, hb.sl.nil, hb.sl.spot⟩, by have := hb.small; simp; omega⟩
  rcases hb.sl.cells with h0 | ⟨b, o, hp, hc⟩
  · left; simp; omega
  · refine .inr ⟨b, o, hp, fun i v hv => hc i v ?_⟩
    rw [List.map_take, List.getElem?_take] at hv
    split at hv
    · exact hv
    · cases hv
end
end Go.Proofs.YtcckofgleghbgaaDoor
