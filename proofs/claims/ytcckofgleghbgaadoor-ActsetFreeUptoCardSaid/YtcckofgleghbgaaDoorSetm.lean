/- Plain laws: what is written into a set of actions. -/
import Derived.Test.YtcckofgleghbgaaDoorPlan
namespace Go.Proofs.YtcckofgleghbgaaDoor
open Go Sx
def plt (p q : PlaceM) : Prop := p.rank < q.rank ∨ (p.rank = q.rank ∧ (p.kind < q.kind ∨ (p.kind = q.kind ∧ p.field < q.field)))
theorem cmpI_cases (a b : Int) : (a < b ∧ cmpI a b = -1) ∨ (a = b ∧ cmpI a b = 0) ∨ (b < a ∧ cmpI a b = 1) := by
  unfold cmpI
  split
  · exact .inl ⟨‹_›, rfl⟩
  · split
    · exact .inr (.inr ⟨by omega, rfl⟩)
    · exact .inr (.inl ⟨by omega, rfl⟩)
theorem placeOrd_lt (p q : PlaceM) : (decide (placeOrd p q ≥ 0) = true) ↔ ¬ plt p q := by
  unfold placeOrd plt
  rcases cmpI_cases p.rank q.rank with ⟨h1, e1⟩ | ⟨h1, e1⟩ | ⟨h1, e1⟩ <;> rcases cmpI_cases p.kind q.kind with ⟨h2, e2⟩ | ⟨h2, e2⟩ | ⟨h2, e2⟩ <;> rcases cmpI_cases p.field q.field with ⟨h3, e3⟩ | ⟨h3, e3⟩ | ⟨h3, e3⟩ <;>
    simp only [orGo, e1, e2, e3, decide_eq_true_eq] <;> simp <;> omega
theorem plt_trans {p q r : PlaceM} (h1 : plt p q) (h2 : plt q r) : plt p r := by unfold plt at *; omega
theorem plt_irrefl (p : PlaceM) : ¬ plt p p := by unfold plt; omega
theorem plt_tri (p q : PlaceM) : plt p q ∨ p = q ∨ plt q p := by
  obtain ⟨a, b, c⟩ := p
  obtain ⟨a', b', c'⟩ := q
  simp only [plt, PlaceM.mk.injEq]
  omega
instance (p q : PlaceM) : Decidable (plt p q) := by unfold plt; infer_instance
theorem findGo_succ {α : Type} {p : α → Bool} : ∀ (k : Nat) (l : List α), findGo p (k + 1) l = if findGo p k l < 0 then -1 else findGo p k l + 1
  | k, [] => by simp [findGo]
  | k, a :: l => by
    unfold findGo
    split
    · rw [if_neg (by omega)]; omega
    · exact findGo_succ (k + 1) l
theorem findGo_ge {α : Type} {p : α → Bool} : ∀ (k : Nat) (l : List α), findGo p k l < 0 ∨ (k : Int) ≤ findGo p k l
  | k, [] => by simp [findGo]
  | k, a :: l => by
    unfold findGo
    split
    · right; omega
    · rcases findGo_ge (p := p) (k + 1) l with h | h
      · exact .inl h
      · right; omega
theorem setPut_nil (x : ActM) : setPut [] x = [x] := by simp [setPut, findGo]
theorem setPut_cons (y : ActM) (d : List ActM) (x : ActM) : setPut (y :: d) x = if plt (placeOf y) (placeOf x) then y :: setPut d x else if placeOf y = placeOf x then x :: d else x :: y :: d := by
  unfold setPut
  simp only
  rw [findGo]
  by_cases hp : plt (placeOf y) (placeOf x)
  · have h1 : ¬ decide (placeOrd (placeOf y) (placeOf x) ≥ 0) = true := fun h => (placeOrd_lt _ _).1 h hp
    rw [if_neg h1, if_pos hp, findGo_succ]
    rcases findGo_ge (p := fun y => decide (placeOrd (placeOf y) (placeOf x) ≥ 0)) 0 d with h | h
    · rw [if_pos h, if_pos (by omega), if_pos h]; rfl
    · have h2 : ¬ findGo (fun y => decide (placeOrd (placeOf y) (placeOf x) ≥ 0)) 0 d < 0 := by omega
      rw [if_neg h2, if_neg (by omega), if_neg h2]
      obtain ⟨i, hi⟩ := Int.eq_ofNat_of_zero_le (show 0 ≤ findGo (fun y => decide (placeOrd (placeOf y) (placeOf x) ≥ 0)) 0 d by omega)
      rw [hi]
      have e1 : ((i : Int) + 1).toNat = i + 1 := by omega
      rw [e1, Int.toNat_natCast]
      have e2 : (y :: d)[i + 1]! = d[i]! := by simp
      rw [e2]
      split
      · rfl
      · rfl
  · have h1 : decide (placeOrd (placeOf y) (placeOf x) ≥ 0) = true := (placeOrd_lt _ _).2 hp
    rw [if_pos h1, if_neg hp, if_neg (by omega)]
    simp
def srt (d : List ActM) : Prop := d.Pairwise fun x y => plt (placeOf x) (placeOf y)
def getP (d : List ActM) (p : PlaceM) : Option ActM := d.find? fun y => decide (placeOf y = p)
theorem setPut_mem {d : List ActM} {x y : ActM} (hy : y ∈ setPut d x) : y = x ∨ y ∈ d := by
  induction d with
  | nil => rw [setPut_nil] at hy; simpa using hy
  | cons z d ih =>
    rw [setPut_cons] at hy
    split at hy
    · rcases List.mem_cons.1 hy with rfl | hy
      · exact .inr (List.mem_cons_self ..)
      · rcases ih hy with h | h
        · exact .inl h
        · exact .inr (List.mem_cons_of_mem _ h)
    · split at hy
      · rcases List.mem_cons.1 hy with rfl | hy
        · exact .inl rfl
        · exact .inr (List.mem_cons_of_mem _ hy)
      · rcases List.mem_cons.1 hy with rfl | hy
        · exact .inl rfl
        · exact .inr hy
theorem setFold_mem {y : ActM} : ∀ {l d : List ActM}, y ∈ l.foldl setPut d → y ∈ l ∨ y ∈ d
  | [], d, hy => .inr hy
  | x :: l, d, hy => by
    rw [List.foldl_cons] at hy
    rcases setFold_mem hy with h | h
    · exact .inl (List.mem_cons_of_mem _ h)
    · rcases setPut_mem h with rfl | h
      · exact .inl (List.mem_cons_self ..)
      · exact .inr h
theorem setPut_srt {d : List ActM} {x : ActM} (hd : srt d) : srt (setPut d x) := by
  induction d with
  | nil => rw [setPut_nil]; exact List.pairwise_singleton _ _
  | cons z d ih =>
    obtain ⟨h1, h2⟩ := List.pairwise_cons.1 hd
    rw [setPut_cons]
    split
    · rename_i hp
      refine List.pairwise_cons.2 ⟨fun y hy => ?_, ih h2⟩
      rcases setPut_mem hy with rfl | hy
      · exact hp
      · exact h1 y hy
    · rename_i hp
      split
      · rename_i he
        exact List.pairwise_cons.2 ⟨fun y hy => he ▸ h1 y hy, h2⟩
      · rename_i he
        have hlt : plt (placeOf x) (placeOf z) := by
          rcases plt_tri (placeOf z) (placeOf x) with h | h | h
          · exact absurd h hp
          · exact absurd h he
          · exact h
        refine List.pairwise_cons.2 ⟨fun y hy => ?_, hd⟩
        rcases List.mem_cons.1 hy with rfl | hy
        · exact hlt
        · exact plt_trans hlt (h1 y hy)
theorem getP_none {d : List ActM} {p : PlaceM} (h : ∀ y ∈ d, plt p (placeOf y)) : getP d p = none := by
  unfold getP
  rw [List.find?_eq_none]
  intro y hy he
  have he' : placeOf y = p := by simpa using he
  exact plt_irrefl p (by have := h y hy; rwa [he'] at this)
theorem getP_cons (y : ActM) (d : List ActM) (p : PlaceM) : getP (y :: d) p = if placeOf y = p then some y else getP d p := by
  unfold getP
  rw [List.find?_cons]
  by_cases h : placeOf y = p <;> simp [h]
theorem setPut_get {d : List ActM} {x : ActM} (hd : srt d) (p : PlaceM) : getP (setPut d x) p = if placeOf x = p then some x else getP d p := by
  induction d with
  | nil => rw [setPut_nil, getP_cons]
  | cons z d ih =>
    obtain ⟨h1, h2⟩ := List.pairwise_cons.1 hd
    rw [setPut_cons]
    split
    · rename_i hp
      rw [getP_cons, ih h2, getP_cons]
      by_cases hz : placeOf z = p
      · have hx : ¬ placeOf x = p := fun e => plt_irrefl p (by rw [hz, e] at hp; exact hp)
        simp [hz, hx]
      · simp [hz]
    · split
      · rename_i he
        rw [getP_cons, getP_cons, he]
        by_cases hx : placeOf x = p <;> simp [hx]
      · rw [getP_cons]
theorem srt_ext : ∀ {d e : List ActM}, srt d → srt e → (∀ p, getP d p = getP e p) → d = e
  | [], [], _, _, _ => rfl
  | x :: d, [], _, _, h => by have := h (placeOf x); rw [getP_cons, if_pos rfl] at this; cases this
  | [], y :: e, _, _, h => by have := h (placeOf y); rw [getP_cons, if_pos rfl] at this; cases this
  | x :: d, y :: e, hd, he, h => by
    obtain ⟨h1, h2⟩ := List.pairwise_cons.1 hd
    obtain ⟨g1, g2⟩ := List.pairwise_cons.1 he
    have hxy : placeOf x = placeOf y := by
      rcases plt_tri (placeOf x) (placeOf y) with hlt | heq | hlt
      · exfalso
        have := h (placeOf x)
        rw [getP_cons, if_pos rfl, getP_none (d := y :: e)] at this
        · cases this
        · intro z hz
          rcases List.mem_cons.1 hz with rfl | hz
          · exact hlt
          · exact plt_trans hlt (g1 z hz)
      · exact heq
      · exfalso
        have := h (placeOf y)
        rw [getP_cons (y := y), if_pos rfl, getP_none (d := x :: d)] at this
        · cases this
        · intro z hz
          rcases List.mem_cons.1 hz with rfl | hz
          · exact hlt
          · exact plt_trans hlt (h1 z hz)
    have hx := h (placeOf x)
    rw [getP_cons, if_pos rfl, getP_cons, if_pos hxy.symm] at hx
    have hxe : x = y := Option.some.inj hx
    subst hxe
    congr 1
    refine srt_ext h2 g2 fun p => ?_
    have hp := h p
    rw [getP_cons, getP_cons] at hp
    by_cases hz : placeOf x = p
    · rw [getP_none (d := d) (fun z hz' => hz ▸ h1 z hz'), getP_none (d := e) (fun z hz' => hz ▸ g1 z hz')]
    · rwa [if_neg hz, if_neg hz] at hp
def setFold (d l : List ActM) : List ActM := l.foldl setPut d
theorem setFold_srt : ∀ {l d : List ActM}, srt d → srt (setFold d l)
  | [], d, hd => hd
  | x :: l, d, hd => by unfold setFold; rw [List.foldl_cons]; exact setFold_srt (l := l) (setPut_srt hd)
/-- The last one of a place. -/
def lastP (l : List ActM) (p : PlaceM) : Option ActM := getP l.reverse p
theorem getP_append (a b : List ActM) (p : PlaceM) : getP (a ++ b) p = (getP a p).or (getP b p) := by unfold getP; rw [List.find?_append]
theorem setFold_get : ∀ {l d : List ActM}, srt d → ∀ p, getP (setFold d l) p = (lastP l p).or (getP d p)
  | [], d, _, p => by simp [setFold, lastP, getP]
  | x :: l, d, hd, p => by
    have := setFold_get (l := l) (setPut_srt (x := x) hd) p
    unfold setFold at this ⊢
    rw [List.foldl_cons, this, setPut_get hd, lastP, lastP, List.reverse_cons, getP_append, getP_cons]
    cases getP l.reverse p with
    | some z => simp
    | none => by_cases hx : placeOf x = p <;> simp [hx, getP]
theorem lastP_srt {d : List ActM} (hd : srt d) (p : PlaceM) : lastP d p = getP d p := by
  induction d with
  | nil => rfl
  | cons x d ih =>
    obtain ⟨h1, h2⟩ := List.pairwise_cons.1 hd
    have := ih h2
    rw [lastP, List.reverse_cons, getP_append, getP_cons, getP_cons, show getP d.reverse p = lastP d p from rfl, this]
    by_cases hx : placeOf x = p
    · rw [if_pos hx, if_pos hx, getP_none (fun z hz => hx ▸ h1 z hz)]; rfl
    · simp [hx, getP]
theorem srt_nil : srt [] := List.Pairwise.nil
def prevBad (q : Option PlaceM) (p : PlaceM) : Bool := match q with | some q => decide (placeOrd q p ≥ 0) | none => false
theorem setGo_iff : ∀ (l : List ActM) (q : Option PlaceM), setGo q l = true ↔ ((∀ x ∈ l, actMay x = true) ∧ srt l ∧ ∀ p, q = some p → ∀ x ∈ l, plt p (placeOf x))
  | [], q => by simp [setGo, srt_nil]
  | x :: l, q => by
    rw [show setGo q (x :: l) = (if (!actMay x || prevBad q (placeOf x)) = true then false else setGo (some (placeOf x)) l) from by cases q <;> rfl]
    have ih := setGo_iff l (some (placeOf x))
    obtain ⟨m, hm⟩ : ∃ m, prevBad q (placeOf x) = m := ⟨_, rfl⟩
    rw [hm]
    have hm' : m = false ↔ ∀ p, q = some p → plt p (placeOf x) := by
      subst hm
      unfold prevBad
      cases q with
      | none => simp
      | some p =>
        have := placeOrd_lt p (placeOf x)
        show decide (placeOrd p (placeOf x) ≥ 0) = false ↔ _
        constructor
        · intro h p' hp; cases hp
          exact Decidable.byContradiction fun hn => by rw [this.2 hn] at h; cases h
        · intro h
          cases hd : decide (placeOrd p (placeOf x) ≥ 0) with
          | false => rfl
          | true => exact absurd (h p rfl) (this.1 hd)
    cases hmay : actMay x with
    | false =>
      simp only [Bool.not_false, Bool.true_or, if_true]
      constructor
      · intro h; cases h
      · rintro ⟨h1, _⟩
        have := h1 x (List.mem_cons_self ..)
        rw [hmay] at this; cases this
    | true =>
      simp only [Bool.not_true, Bool.false_or]
      cases hmm : m with
      | true =>
        simp only [if_true]
        constructor
        · intro h; cases h
        · rintro ⟨_, _, h3⟩
          have := hm'.2 fun p hp => h3 p hp x (List.mem_cons_self ..)
          rw [hmm] at this; cases this
      | false =>
        simp only [Bool.false_eq_true, if_false]
        have hq := hm'.1 hmm
        rw [ih]
        constructor
        · rintro ⟨i1, i2, i3⟩
          have i4 := i3 _ rfl
          refine ⟨fun y hy => ?_, List.pairwise_cons.2 ⟨i4, i2⟩, fun p hp y hy => ?_⟩
          · rcases List.mem_cons.1 hy with rfl | hy
            · exact hmay
            · exact i1 y hy
          · rcases List.mem_cons.1 hy with rfl | hy
            · exact hq p hp
            · exact plt_trans (hq p hp) (i4 y hy)
        · rintro ⟨h1, h2, _⟩
          obtain ⟨g1, g2⟩ := List.pairwise_cons.1 h2
          exact ⟨fun y hy => h1 y (List.mem_cons_of_mem _ hy), g2, fun p hp y hy => by cases hp; exact g1 y hy⟩
theorem setRight_iff (l : List ActM) : setRight l = true ↔ (∀ x ∈ l, actMay x = true) ∧ srt l := by
  unfold setRight
  rw [setGo_iff]
  exact ⟨fun ⟨a, b, _⟩ => ⟨a, b⟩, fun ⟨a, b⟩ => ⟨a, b, fun p hp => by cases hp⟩⟩
theorem setWrite_iff (set l : List ActM) : (setWrite set l).2 = 0 ↔ setRight set = true ∧ ∀ x ∈ l, actMay x = true := by
  unfold setWrite
  split
  · rename_i h
    simp only [Bool.or_eq_true, Bool.not_eq_true', List.any_eq_true] at h
    constructor
    · intro e; exact absurd e (by decide)
    · rintro ⟨h1, h2⟩
      rcases h with h | ⟨x, hx, h⟩
      · rw [h1] at h; cases h
      · rw [h2 x hx] at h; cases h
  · rename_i h
    simp only [Bool.or_eq_true, Bool.not_eq_true', List.any_eq_true, not_or, not_exists, not_and, Bool.not_eq_false] at h
    exact ⟨fun _ => ⟨h.1, h.2⟩, fun _ => rfl⟩
theorem setWrite_ok {set l : List ActM} (h : (setWrite set l).2 = 0) : (setWrite set l).1 = setFold set l := by
  unfold setWrite at h ⊢
  split at h
  · exact absurd h (by decide)
  · rename_i hc; rw [if_neg hc]; rfl
theorem setWrite_bad {set l : List ActM} (h : (setWrite set l).2 ≠ 0) : (setWrite set l) = ([], 10001) := by
  unfold setWrite at h ⊢
  split at h
  · rename_i hc; rw [if_pos hc]
  · exact absurd rfl h
/-- What is written is a set. -/
theorem setFold_right {set l : List ActM} (h1 : setRight set = true) (h2 : ∀ x ∈ l, actMay x = true) : setRight (setFold set l) = true := by
  obtain ⟨a, b⟩ := (setRight_iff _).1 h1
  refine (setRight_iff _).2 ⟨fun x hx => ?_, setFold_srt b⟩
  rcases setFold_mem hx with h | h
  · exact h2 x h
  · exact a x h
theorem setRight_nil : setRight [] = true := rfl
/-- The theorem of stage 14, of lists. -/
theorem set_twice {l m : List ActM} (hl : ∀ x ∈ l, actMay x = true) (hm : ∀ x ∈ m, actMay x = true) :
    setFold [] (l ++ m) = setFold (setFold [] l) m ∧ setFold (setFold (setFold [] l) m) m = setFold (setFold [] l) m ∧ setFold (setFold [] l) (setFold [] m) = setFold (setFold [] l) m := by
  have s1 := setFold_srt (l := l) srt_nil
  have s2 := setFold_srt (l := m) s1
  have sm := setFold_srt (l := m) srt_nil
  refine ⟨by unfold setFold; rw [List.foldl_append], ?_, ?_⟩
  · refine srt_ext (setFold_srt s2) s2 fun p => ?_
    rw [setFold_get s2, setFold_get s1]
    cases lastP m p <;> rfl
  · refine srt_ext (setFold_srt s1) s2 fun p => ?_
    rw [setFold_get s1, setFold_get s1, lastP_srt sm, setFold_get srt_nil]
    cases lastP m p <;> rfl
theorem set_last {d m : List ActM} {x : ActM} (hd : srt d) : x ∈ setFold d (m ++ [x]) := by
  have h := setFold_get (l := m ++ [x]) hd (placeOf x)
  rw [lastP, List.reverse_append, List.reverse_singleton, List.singleton_append, getP_cons, if_pos rfl] at h
  exact List.mem_of_find?_eq_some h
end Go.Proofs.YtcckofgleghbgaaDoor
