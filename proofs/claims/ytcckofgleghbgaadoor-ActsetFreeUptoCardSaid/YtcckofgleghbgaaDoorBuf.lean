/- Contracts: package buffer. -/
import Derived.Test.YtcckofgleghbgaaDoorSxh
import Derived.Test.YtcckofgleghbgaaDoorCur
namespace Go.Proofs.YtcckofgleghbgaaDoor
open Go Sx
section
variable {h : GH} {b m : Nat} {sl : Sl} {room e : Int}
/-- What writing bytes comes to: the bytes there, the fault. -/
def bufPut (l : List UInt8) (room e : Int) (x : List UInt8) : List UInt8 × Int := if e ≠ 0 then (l, e) else if (x.length : Int) > room - l.length then (l, 10003) else (l ++ x, 0)
theorem putGo_length : ∀ {w : List Int} {ns : List UInt64} {x : List UInt8}, putGo w ns = some x → w.all widthOk = true → x.length ≤ 64 * w.length := by
  intro w
  induction w with
  | nil => intro ns x hx _; simp [putGo] at hx; subst hx; simp
  | cons n w ih =>
    intro ns x hx hw
    simp only [List.all_cons, Bool.and_eq_true] at hw
    have h1 : n ≤ 8 ∧ -64 ≤ n := by have := hw.1; simp [widthOk] at this; omega
    by_cases hn : n < 0
    · rw [putGo_neg hn] at hx
      cases hg : putGo w ns with
      | none => rw [hg] at hx; cases hx
      | some y =>
        rw [hg] at hx
        cases hx
        have := ih hg hw.2
        simp [putB_length]; omega
    · cases ns with
      | nil => simp [putGo, hn] at hx
      | cons u ns =>
        rw [putGo_pos hn] at hx
        split at hx
        · cases hx
        · cases hg : putGo w ns with
          | none => rw [hg] at hx; cases hx
          | some y =>
            rw [hg] at hx
            cases hx
            have := ih hg hw.2
            simp [putB_length]; omega
theorem rowPut_length {w : List Int} {ns : List UInt64} {x : List UInt8} (hx : rowPut w ns = some x) : x.length ≤ 4096 := by
  unfold rowPut at hx
  split at hx
  · rename_i hc
    simp only [Bool.and_eq_true, rowRight, decide_eq_true_eq] at hc
    have := putGo_length hx hc.1.2
    omega
  · cases hx
/-- A row's bytes, which nobody writes. -/
theorem row_PutI {h : GH} {s s1 : Sl} {l : List Int} {ns : List UInt64} (hs : IsInts h s l) (hs1 : IsNums h s1 ns) : Ctr Tryd.prog 97 [s.v, s1.v].toArray h [] fun r h' N => N = [] ∧ ∃ s' : Sl, r = .tuple #[s'.v, .bool (rowPut l ns).isSome] ∧ IsBytes h' s' ((rowPut l ns).getD []) := by
  have h1 : Ctr Tryd.prog 97 [s.v, s1.v].toArray h [] fun r h' N => ∃ s' : Sl, r = .tuple #[s'.v, .bool (rowPut l ns).isSome] ∧ OwnB s' ((rowPut l ns).getD []) N := by
    refine Ctr.weak (row_Put hs hs1) fun v h' N _ ⟨_, hp⟩ => ?_
    cases hq : rowPut l ns with
    | none =>
      rw [hq] at hp
      exact ⟨[], N, Take.nothing, Sl.none, hp, OwnSl.nil⟩
    | some x =>
      rw [hq] at hp
      exact ⟨N, [], Take.whole, hp⟩
  refine Ctr.freeze h1 fun v h' N _ ⟨s', hv, ho⟩ => ⟨5, 1, s', _, N, [], ho, Take.whole, fun h'' _ hi => ⟨rfl, s', hv, hi, ?_⟩⟩
  cases hq : rowPut l ns with
  | none => simp
  | some x => have := rowPut_length hq; simp; omega
/-- What writing a row comes to. -/
def bufRow (l : List UInt8) (room e : Int) (w : List Int) (ns : List UInt64) : List UInt8 × Int := match rowPut w ns with | some x => bufPut l room e x | none => (l, if e = 0 then 10001 else e)
/-- Is it a number's width? -/
def wideOk (k : Int) : Bool := decide (k ≥ 1) && decide (k ≤ 8)
/-- What writing a number comes to. -/
def bufNum (l : List UInt8) (room e : Int) (k : Int) (x : UInt64) : List UInt8 × Int := if wideOk k then bufRow l room e [k] [x] else (l, if e = 0 then 10001 else e)
/-- What writing zeros up to a multiple comes to. -/
def bufEven (l : List UInt8) (room e : Int) (k : Int) : List UInt8 × Int := if k < 1 ∨ k > 64 then (l, if e = 0 then 10001 else e) else bufPut l room e (List.replicate (k.toNat - l.length % k.toNat) 0 |>.take (if l.length % k.toNat = 0 then 0 else k.toNat))
/-- The bytes, or the fault. -/
def bufEnd (l : List UInt8) (e : Int) : List UInt8 × Int := if e ≠ 0 then ([], e) else (l, 0)
end
end Go.Proofs.YtcckofgleghbgaaDoor
