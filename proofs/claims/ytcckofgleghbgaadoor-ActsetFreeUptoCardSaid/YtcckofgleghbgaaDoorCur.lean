/- Contracts: bytes.Clone, package cursor. -/
import Derived.Test.YtcckofgleghbgaaDoorRowb
namespace Go.Proofs.YtcckofgleghbgaaDoor
open Go Sx
theorem IsBytes.ofSl {h : GH} {s : Sl} {l : List UInt8} (h1 : IsSl h 1 s (l.map u8v)) (h2 : l.length ≤ 140737488355328) : IsBytes h s l := ⟨h1, h2⟩
section
variable {h : GH} {c : Nat} {sl : Sl} {at_ : Nat} {short odd e : Int}
/-- What a row read comes to: the numbers, where the cursor stands, its fault. -/
def curRow (w : List Int) (bs : List UInt8) (at_ : Nat) (short odd e : Int) : List UInt64 × Nat × Int :=
  if e = 0 then ((rowGet w (bs.drop at_)).1, if (rowGet w (bs.drop at_)).2 = 1 then (at_, short) else if (rowGet w (bs.drop at_)).2 = 2 then (at_, odd) else (at_ + (rsum w).toNat, 0)) else ([], at_, e)
theorem getGo_err {w : List Int} : ∀ {b : List UInt8} {k : Int}, getGo w b = .error k → k = 1 ∨ k = 2 := by
  induction w with
  | nil => intro b k hk; simp [getGo] at hk
  | cons n w ih =>
    intro b k hk
    simp only [getGo] at hk
    split at hk
    · cases hk; exact .inl rfl
    · split at hk
      · cases hg : getGo w (b.drop (max n (-n)).toNat) with
        | error e => rw [hg] at hk; cases hk; exact ih hg
        | ok l => rw [hg] at hk; cases hk
      · split at hk
        · exact ih hk
        · cases hk; exact .inr rfl
theorem rsum_cons (n : Int) (w : List Int) : rsum (n :: w) = max n (-n) + rsum w := by simp [rsum]
theorem getGo_ok {w : List Int} : ∀ {b : List UInt8} {l : List UInt64}, getGo w b = .ok l → 0 ≤ rsum w ∧ rsum w ≤ (b.length : Int) := by
  induction w with
  | nil => intro b l _; simp [rsum]
  | cons n w ih =>
    intro b l hk
    rw [rsum_cons]
    simp only [getGo] at hk
    split at hk
    · cases hk
    · rename_i hlen
      have key : ∀ l', getGo w (b.drop (max n (-n)).toNat) = .ok l' → 0 ≤ max n (-n) + rsum w ∧ max n (-n) + rsum w ≤ (b.length : Int) := fun l' hg => by
        have := ih hg
        simp at this
        omega
      split at hk
      · cases hg : getGo w (b.drop (max n (-n)).toNat) with
        | error e => rw [hg] at hk; cases hk
        | ok l' => exact key l' hg
      · split at hk
        · exact key _ hk
        · cases hk
theorem rowGet_ok {w : List Int} {b : List UInt8} (h1 : ¬ (rowGet w b).2 = 1) (h2 : ¬ (rowGet w b).2 = 2) : rowSize w = rsum w ∧ 0 ≤ rsum w ∧ rsum w ≤ (b.length : Int) := by
  simp only [rowGet] at h1 h2
  split at h1
  · rename_i hr
    rw [if_pos hr] at h2
    cases hg : getGo w b with
    | error k =>
      rw [hg] at h1 h2
      rcases getGo_err hg with hk | hk
      · exact absurd hk h1
      · exact absurd hk h2
    | ok l => exact ⟨by simp [rowSize, hr], getGo_ok hg⟩
  · rename_i hr
    rw [if_neg hr] at h2
    exact absurd rfl h2
/-- What a number read comes to. -/
def curNum (wd : Int) (bs : List UInt8) (at_ : Nat) (short odd e : Int) : UInt64 × Nat × Int :=
  if wd < 1 ∨ wd > 8 then (0, at_, if e = 0 then 10001 else e) else ((curRow [wd] bs at_ short odd e).1.headD 0, (curRow [wd] bs at_ short odd e).2)
theorem IsBytes.cut3 {h : GH} {s : Sl} {l : List UInt8} (hb : IsBytes h s l) (i j k : Nat) (hij : i ≤ j) (hj : j ≤ l.length) (hjk : j ≤ k) (hk : k ≤ s.c) : IsBytes h ⟨slAt s.p k i 1, j - i, k - i⟩ ((l.drop i).take (j - i)) := by
  have := hb.sl.cut3 i j k hij (by rw [hb.n]; exact hj) hjk hk
  refine ⟨?_, by have := hb.small; simp; omega⟩
  simpa using this
/-- The fault after so many bytes were asked for. -/
def takeErr (k : Int) (bs : List UInt8) (at_ : Nat) (short e : Int) : Int := if e ≠ 0 then e else if k < 0 then 10001 else if k > (bs.length : Int) - at_ then short else 0
/-- What taking so many bytes comes to: the bytes, whether, where the cursor stands, its fault. -/
def curTake (k : Int) (bs : List UInt8) (at_ : Nat) (short e : Int) : List UInt8 × Bool × Nat × Int :=
  if takeErr k bs at_ short e ≠ 0 then ([], false, at_, takeErr k bs at_ short e) else ((bs.drop at_).take k.toNat, true, at_ + k.toNat, 0)
theorem takeErr_ok {k : Int} {bs : List UInt8} {at_ : Nat} {short e : Int} (hsh : short ≠ 0) (ht : takeErr k bs at_ short e = 0) : 0 ≤ k ∧ k + (at_ : Int) ≤ (bs.length : Int) := by
  unfold takeErr at ht
  split at ht
  · contradiction
  · split at ht
    · omega
    · split at ht
      · contradiction
      · omega
theorem curTake_at {k : Int} {bs : List UInt8} {at_ : Nat} {short e : Int} (hsh : short ≠ 0) (ha : at_ ≤ bs.length) : (curTake k bs at_ short e).2.2.1 ≤ bs.length := by
  unfold curTake
  split
  · exact ha
  · rename_i ht
    have := takeErr_ok hsh (by simpa using ht)
    simp only
    omega
end
end Go.Proofs.YtcckofgleghbgaaDoor
