/- Symbolic execution, part d: a region that draws its order: what only reads goes in any order, what acts stands behind it in one order. -/
import Derived.Test.YtcckofgleghbgaaDoorSxc
namespace Go.Proofs.YtcckofgleghbgaaDoor.Sx
open Go

/-- The edges that bind in whatever order. -/
def deps (o : Oper) : List Edge := o.after.toList.filter (Region.binds .any ·)
def depEnv (ops : Array Oper) (vs : List Value) : List Edge → Env
  | [] => []
  | e :: es => match (ops[e.on]?).bind (·.dst), vs[e.on]? with
    | some d, some v => (d, v) :: depEnv ops vs es
    | _, _ => depEnv ops vs es
/-- May the operation i read what the frame held at t before the region? -/
def mayKeep (i t : Nat) : List Oper → Bool
  | [] => true
  | o :: os => (match o.dst with
    | some d => bif Nat.beq d t then (deps o).any (fun e => Nat.beq e.on i) else true
    | none => true) && mayKeep i t os
def keepEnv (front : List Oper) (i : Nat) : Env → Env
  | [] => []
  | (t, v) :: E => bif mayKeep i t front then (t, v) :: keepEnv front i E else keepEnv front i E
def finEnv : List Oper → List Value → Env → Env
  | o :: os, v :: vs, E => finEnv os vs (match o.dst with | some d => (d, v) :: E | none => E)
  | _, _, E => E
def distinct : List Nat → Bool
  | [] => true
  | x :: xs => !(xs.any fun y => Nat.beq y x) && distinct xs
/-- Does an operation wait for that at j, by way of others, too? -/
def reachB (l : List Oper) : Nat → Nat → Oper → Bool
  | 0, _, _ => false
  | f + 1, j, o => ((deps o).any fun e => Nat.beq e.on j) || (deps o).any fun e => Nat.blt j e.on && match l[e.on]? with | some o' => reachB l f j o' | none => false
inductive Reach (ops : Array Oper) (j : Nat) : Oper → Prop
  | direct {o : Oper} {e : Edge} : e ∈ deps o → e.on = j → Reach ops j o
  | step {o o' : Oper} {e : Edge} : e ∈ deps o → ops[e.on]? = some o' → Reach ops j o' → Reach ops j o
theorem reachB_spec {ops : Array Oper} {j : Nat} : ∀ {f : Nat} {o : Oper}, reachB ops.toList f j o = true → Reach ops j o
  | 0, _, hr => by cases hr
  | f + 1, o, hr => by
    unfold reachB at hr
    rcases Bool.or_eq_true_iff.1 hr with h | h
    · obtain ⟨e, he, hj⟩ := List.any_eq_true.1 h
      exact .direct he (Nat.eq_of_beq_eq_true hj)
    · obtain ⟨e, he, hj⟩ := List.any_eq_true.1 h
      have h2 := (Bool.and_eq_true_iff.1 hj).2
      cases ho : ops.toList[e.on]? with
      | none => rw [ho] at h2; cases h2
      | some o' => rw [ho] at h2; exact .step he (by simpa using ho) (reachB_spec h2)
/-- What is ready waits for nothing that is not done. -/
theorem Reach.listed {ops : Array Oper} {j : Nat} {P : Nat → Prop} (hcl : ∀ (i : Nat) o, ops[i]? = some o → P i → ∀ e ∈ deps o, P e.on) : ∀ {o : Oper}, Reach ops j o → (∀ e ∈ deps o, P e.on) → P j := by
  intro o hr
  induction hr with
  | direct he hj => intro h; exact hj ▸ h _ he
  | step he ho _ ih => intro h; exact ih (hcl _ _ ho (h _ he))
/-- The edges lead back; the first m operations write slots of their own; each behind these waits for all ahead of it. -/
def drawOk (ops : Array Oper) (m n : Nat) : Bool :=
  ops.toList.zipIdx.all (fun p => (deps p.1).all fun e => Nat.blt e.on p.2) &&
  (ops.toList.take m).all (fun o => match o.dst with | some d => Nat.blt d n | none => true) &&
  distinct ((ops.toList.take m).filterMap (·.dst)) &&
  ops.toList.zipIdx.all (fun p => Nat.blt p.2 m || (List.range p.2).all fun j => reachB ops.toList ops.size j p.1) &&
  Nat.ble m ops.size

section
variable {P : Program} {B : Base} {E : Env} {h : GH} {L : Own} {Q : Post} {n : Nat} {ops : Array Oper}

def FrontOk (P : Program) (B : Base) (ops : Array Oper) (front : List Oper) (E : Env) (h : GH) (L : Own) (ks dn : List Bool) (vs : List Value) : Nat → List Oper → List Value → Prop
  | i, o :: os, v :: vs' => (ks.getD i false = true → dn.getD i false = false → OpG P B ops (depEnv ops vs (deps o) ++ keepEnv front i E) h L o v) ∧ FrontOk P B ops front E h L ks dn vs (i + 1) os vs'
  | _, _, [] => True
  | _, [], _ :: _ => False

theorem FrontOk.get {front : List Oper} {ks dn : List Bool} {vs : List Value} : ∀ {l : List Oper} {vs' : List Value} {i : Nat}, FrontOk P B ops front E h L ks dn vs i l vs' → ∀ {j : Nat} {o : Oper} {v : Value}, l[j]? = some o → vs'[j]? = some v → ks.getD (i + j) false = true → dn.getD (i + j) false = false →
    OpG P B ops (depEnv ops vs (deps o) ++ keepEnv front (i + j) E) h L o v
  | l, [], i, _, j, o, v, _, hv, _, _ => by simp at hv
  | [], _ :: _, i, hf, j, o, v, _, _, _, _ => hf.elim
  | o' :: os, v' :: vs', i, hf, j, o, v, ho, hv, hk, hd => by
    cases j with
    | zero => simp at ho hv; subst ho; subst hv; exact hf.1 hk hd
    | succ j =>
      have := FrontOk.get hf.2 (j := j) (o := o) (v := v) (by simpa using ho) (by simpa using hv) (by rw [show i + 1 + j = i + (j + 1) by omega]; exact hk) (by rw [show i + 1 + j = i + (j + 1) by omega]; exact hd)
      rw [show i + (j + 1) = i + 1 + j by omega]
      exact this
theorem eget_append {E1 E2 : Env} {t : Nat} : eget (E1 ++ E2) t = (eget E1 t).or (eget E2 t) := by
  induction E1 with
  | nil => simp [eget]
  | cons p E1 ih =>
    obtain ⟨k, v⟩ := p
    rw [List.cons_append, eget_cons, eget_cons]
    split
    · simp
    · exact ih
theorem eget_depEnv {vs : List Value} {t : Nat} {v : Value} : ∀ {es : List Edge}, eget (depEnv ops vs es) t = some v → ∃ e ∈ es, ∃ o, ops[e.on]? = some o ∧ o.dst = some t ∧ vs[e.on]? = some v
  | [], hv => by cases hv
  | e :: es, hv => by
    unfold depEnv at hv
    split at hv
    · rename_i d u h1 h2
      rw [eget_cons] at hv
      split at hv
      · rename_i hd
        cases hv
        obtain ⟨o, ho, hod⟩ := Option.bind_eq_some_iff.1 h1
        exact ⟨e, List.mem_cons_self .., o, ho, by rw [hod, hd], h2⟩
      · obtain ⟨e', he', r⟩ := eget_depEnv hv
        exact ⟨e', List.mem_cons_of_mem _ he', r⟩
    · obtain ⟨e', he', r⟩ := eget_depEnv hv
      exact ⟨e', List.mem_cons_of_mem _ he', r⟩
theorem eget_keepEnv {front : List Oper} {i t : Nat} {v : Value} : ∀ {E : Env}, eget (keepEnv front i E) t = some v → mayKeep i t front = true ∧ eget E t = some v
  | [], hv => by cases hv
  | (k, u) :: E, hv => by
    unfold keepEnv at hv
    cases hk : mayKeep i k front with
    | true =>
      rw [hk] at hv
      simp only [cond_true, eget_cons] at hv ⊢
      split at hv
      · rename_i e; subst e; exact ⟨hk, by simpa using hv⟩
      · rename_i hne
        have := eget_keepEnv hv
        rw [if_neg hne]
        exact this
    | false =>
      rw [hk] at hv
      simp only [cond_false] at hv
      have := eget_keepEnv hv
      rw [eget_cons]
      split
      · rename_i e; subst e; rw [hk] at this; cases this.1
      · exact this
theorem mayKeep_spec {i t : Nat} : ∀ {front : List Oper}, mayKeep i t front = true → ∀ o ∈ front, o.dst = some t → ∃ e ∈ deps o, e.on = i
  | [], _, o, ho, _ => by cases ho
  | o' :: os, hk, o, ho, hd => by
    unfold mayKeep at hk
    simp only [Bool.and_eq_true] at hk
    rcases List.mem_cons.1 ho with rfl | ho
    · have h1 := hk.1
      rw [hd] at h1
      have hb : Nat.beq t t = true := by simp
      simp only [hb, cond_true, List.any_eq_true] at h1
      obtain ⟨e, he, hi⟩ := h1
      exact ⟨e, he, Nat.eq_of_beq_eq_true hi⟩
    · exact mayKeep_spec hk.2 o ho hd

theorem distinct_spec : ∀ {l : List Nat}, distinct l = true → l.Nodup
  | [], _ => List.nodup_nil
  | x :: xs, hd => by
    unfold distinct at hd
    simp only [Bool.and_eq_true, Bool.not_eq_true'] at hd
    refine List.nodup_cons.2 ⟨fun hm => ?_, distinct_spec hd.2⟩
    have := hd.1
    rw [List.any_eq_false] at this
    exact this x hm (by simp)

structure DrawFacts (ops : Array Oper) (m n : Nat) : Prop where
  back : ∀ (i : Nat) o, ops[i]? = some o → ∀ e ∈ deps o, e.on < i
  dst : ∀ (i : Nat) o, i < m → ops[i]? = some o → ∀ d, o.dst = some d → d < n
  apart : ∀ (i j : Nat) o o' d, i < m → j < m → ops[i]? = some o → ops[j]? = some o' → o.dst = some d → o'.dst = some d → i = j
  tail : ∀ (k : Nat) o, m ≤ k → ops[k]? = some o → ∀ j, j < k → Reach ops j o
  size : m ≤ ops.size
theorem drawOk_spec {m : Nat} (hd : drawOk ops m n = true) : DrawFacts ops m n := by
  unfold drawOk at hd
  simp only [Bool.and_eq_true] at hd
  obtain ⟨⟨⟨⟨h1, h2⟩, h3⟩, h4⟩, h5⟩ := hd
  have hmem : ∀ (i : Nat) o, ops[i]? = some o → (o, i) ∈ ops.toList.zipIdx := fun i o ho => by
    rw [List.mk_mem_zipIdx_iff_getElem?]; simpa using ho
  refine ⟨fun i o ho e he => ?_, fun i o hi ho => ?_, ?_, fun k o hk ho j hj => ?_, Nat.le_of_ble_eq_true h5⟩
  · have := List.all_eq_true.1 (List.all_eq_true.1 h1 _ (hmem i o ho)) e he
    exact Nat.le_of_ble_eq_true this
  · have := List.all_eq_true.1 h2 o (List.mem_iff_getElem?.2 ⟨i, by rw [List.getElem?_take_of_lt hi]; simpa using ho⟩)
    intro d hod
    simp only [hod] at this
    exact Nat.le_of_ble_eq_true this
  · have hnd := distinct_spec h3
    have key : ∀ (l : List Oper), (l.filterMap (·.dst)).Nodup → ∀ (i j : Nat) o o' d, l[i]? = some o → l[j]? = some o' → o.dst = some d → o'.dst = some d → i = j := by
      intro l
      induction l with
      | nil => intro _ i j o o' d ho; simp at ho
      | cons x xs ih =>
        intro hn i j o o' d ho ho' hd hd'
        have hxs : (xs.filterMap (·.dst)).Nodup := by
          simp only [List.filterMap_cons] at hn
          split at hn
          · exact hn
          · exact (List.nodup_cons.1 hn).2
        cases i with
        | zero =>
          cases j with
          | zero => rfl
          | succ j =>
            simp at ho ho'
            subst ho
            simp only [List.filterMap_cons, hd] at hn
            exact absurd (List.mem_filterMap.2 ⟨o', List.mem_of_getElem? ho', hd'⟩) (List.nodup_cons.1 hn).1
        | succ i =>
          cases j with
          | zero =>
            simp at ho ho'
            subst ho'
            simp only [List.filterMap_cons, hd'] at hn
            exact absurd (List.mem_filterMap.2 ⟨o, List.mem_of_getElem? ho, hd⟩) (List.nodup_cons.1 hn).1
          | succ j => rw [ih hxs i j o o' d (by simpa using ho) (by simpa using ho') hd hd']
    intro i j o o' d hi hj ho ho' hd hd'
    exact key _ hnd i j o o' d (by rw [List.getElem?_take_of_lt hi]; simpa using ho) (by rw [List.getElem?_take_of_lt hj]; simpa using ho') hd hd'
  · have := List.all_eq_true.1 h4 _ (hmem k o ho)
    simp only [Bool.or_eq_true] at this
    rcases this with this | this
    · have := Nat.le_of_ble_eq_true this; omega
    · have := List.all_eq_true.1 this j (by simpa using hj)
      exact reachB_spec this

theorem mem_ready {listed : Array Bool} {i : Nat} : i ∈ Region.ready .any ops listed ↔ i < ops.size ∧ listed.getD i true = false ∧ ∃ o, ops[i]? = some o ∧ ∀ e ∈ deps o, listed.getD e.on false = true := by
  unfold Region.ready
  simp only [List.mem_filter, List.mem_range, Bool.and_eq_true, Bool.not_eq_true']
  constructor
  · rintro ⟨h1, h2, h3⟩
    refine ⟨h1, h2, ?_⟩
    cases ho : ops[i]? with
    | none => simp [ho] at h3
    | some o =>
      refine ⟨o, rfl, fun e he => ?_⟩
      obtain ⟨he, hb⟩ := List.mem_filter.1 he
      simp only [ho, Option.map_some, Option.getD_some] at h3
      have := Array.all_eq_true'.1 h3 e (Array.mem_toList_iff.1 he)
      simpa [hb] using this
  · rintro ⟨h1, h2, o, ho, h3⟩
    refine ⟨h1, h2, ?_⟩
    simp only [ho, Option.map_some, Option.getD_some]
    refine Array.all_eq_true'.2 fun e he => ?_
    cases hb : Region.binds .any e with
    | false => simp
    | true => simp [h3 e (List.mem_filter.2 ⟨Array.mem_toList_iff.2 he, hb⟩)]

theorem getD_listed {listed : Array Bool} {i j : Nat} {dflt : Bool} (hi : i < listed.size) : (listed.setIfInBounds i true).getD j dflt = if i = j then true else listed.getD j dflt := by
  by_cases hij : i = j
  · subst hij; simp [Array.getD_eq_getD_getElem?, hi]
  · rw [if_neg hij]
    simp [Array.getD_eq_getD_getElem?, Array.getElem?_setIfInBounds_ne hij]
theorem getD_any {listed : Array Bool} {j : Nat} (hj : j < listed.size) (x y : Bool) : listed.getD j x = listed.getD j y := by simp [Array.getD_eq_getD_getElem?, hj]

/-- The tail: one order alone. -/
theorem wpAny_tail {m : Nat} (df : DrawFacts ops m n) : ∀ (fuel k : Nat) (listed : Array Bool) (a : Act) (w : World), k + fuel = ops.size → m ≤ k → listed.size = ops.size → (∀ j, j < ops.size → listed.getD j true = decide (j < k)) →
    wpList P ops Q (ops.toList.drop k) a w → wpAny P .any ops Q fuel listed a w
  | 0, k, listed, a, w, hk, hm, hs, hl, hw => by
    have hdrop : ops.toList.drop k = [] := List.drop_eq_nil_of_le (by simp; omega)
    rw [hdrop] at hw
    refine ⟨?_, hw⟩
    apply List.eq_nil_iff_forall_not_mem.2
    intro i hi
    obtain ⟨h1, h2, _⟩ := mem_ready.1 hi
    rw [hl i h1] at h2
    simp at h2
    omega
  | fuel + 1, k, listed, a, w, hk, hm, hs, hl, hw => by
    have hkl : k < ops.size := by omega
    obtain ⟨o, ho⟩ : ∃ o, ops[k]? = some o := ⟨ops[k], by simp [hkl]⟩
    have hdrop : ops.toList.drop k = o :: ops.toList.drop (k + 1) := by
      rw [List.drop_eq_getElem_cons (by simpa using hkl)]
      congr 1
      have : ops[k] = o := by simpa [hkl] using ho
      simpa using this
    rw [hdrop] at hw
    have hready : k ∈ Region.ready .any ops listed := mem_ready.2 ⟨hkl, by rw [hl k hkl]; simp, o, ho, fun e he => by
      have := df.back k o ho e he
      rw [getD_any (by omega) false true, hl e.on (by omega)]
      simpa using this⟩
    refine ⟨(fun hnil => by rw [hnil] at hready; cases hready), fun i hi => ?_⟩
    have hik : i = k := by
      obtain ⟨h1, h2, oi, hoi, h3⟩ := mem_ready.1 hi
      rw [hl i h1] at h2
      simp at h2
      rcases Nat.lt_or_ge k i with hlt | hge
      · exfalso
        have h4 := (df.tail i oi (by omega) hoi k hlt).listed (P := fun j => j < k) (fun i' o' ho' hi' e he => Nat.lt_trans (df.back i' o' ho' e he) hi') (fun e he => by
          have hb := df.back i oi hoi e he
          have := h3 e he
          rw [getD_any (by omega) false true, hl e.on (by omega)] at this
          simpa using this)
        omega
      · omega
    subst hik
    have hnext : ∀ a w, wpList P ops Q (ops.toList.drop (i + 1)) a w → wpAny P .any ops Q fuel (listed.setIfInBounds i true) a w := fun a w hw' =>
      wpAny_tail df fuel (i + 1) _ a w (by omega) (by omega) (by simpa using hs) (fun j hj => by
        rw [getD_listed (by omega), hl j hj]
        by_cases hij : i = j
        · subst hij; simp
        · simp only [if_neg hij]; congr 1; simp; omega) hw'
    unfold wpOp
    simp only [ho]
    unfold wpList at hw
    split at hw
    · rename_i hwn
      rw [if_pos hwn]
      exact hw.imp (Oper.wp_mono hnext) id
    · rename_i hwn
      rw [if_neg hwn]
      exact hnext _ _ hw

def unlisted (listed : Array Bool) (m : Nat) : Nat := ((List.range m).filter fun j => !listed.getD j true).length
theorem unlisted_set {listed : Array Bool} {i m : Nat} (hi : i < listed.size) (him : i < m) (hu : listed.getD i true = false) : unlisted (listed.setIfInBounds i true) m + 1 = unlisted listed m := by
  unfold unlisted
  induction m with
  | zero => omega
  | succ m ih =>
    rw [List.range_succ, List.filter_append, List.filter_append, List.length_append, List.length_append]
    rcases Nat.lt_or_ge i m with h | h
    · have := ih h
      have e : (List.filter (fun j => !(listed.setIfInBounds i true).getD j true) [m]) = List.filter (fun j => !listed.getD j true) [m] := by
        simp only [List.filter_cons, List.filter_nil, getD_listed hi, if_neg (show ¬ i = m by omega)]
      rw [e]; omega
    · obtain rfl : i = m := by omega
      have e1 : (List.range i).filter (fun j => !(listed.setIfInBounds i true).getD j true) = (List.range i).filter (fun j => !listed.getD j true) := by
        apply List.filter_congr
        intro j hj
        rw [getD_listed hi, if_neg (by have := List.mem_range.1 hj; omega)]
      rw [e1]
      simp only [List.filter_cons, List.filter_nil, getD_listed hi, if_pos, hu, Bool.not_true, Bool.not_false, Bool.false_eq_true, if_false, List.length_nil, List.length_cons]

structure DrawInv (B : Base) (ops : Array Oper) (E : Env) (h : GH) (L : Own) (ks dn : List Bool) (vs : List Value) (n : Nat) (listed : Array Bool) (a : Act) (w : World) : Prop where
  known : ∀ i, i < vs.length → listed.getD i true = true → ks.getD i false = true
  dnl : ∀ i, dn.getD i false = true → listed.getD i true = true
  defers : a.defers = []
  asize : a.tmps.size = n
  step : Step B h L w
  lsize : listed.size = ops.size
  done : ∀ (i : Nat) o d v, i < vs.length → listed.getD i true = true → ops[i]? = some o → o.dst = some d → vs[i]? = some v → a.tmps[d]? = some v
  keep : ∀ t v, eget E t = some v → (∀ (i : Nat) o, i < vs.length → listed.getD i true = true → ops[i]? = some o → o.dst ≠ some t) → a.tmps[t]? = some v
  closed : ∀ (i : Nat) o, i < ops.size → listed.getD i true = true → ops[i]? = some o → ∀ e ∈ deps o, listed.getD e.on true = true
  tail : ∀ i, vs.length ≤ i → i < ops.size → listed.getD i true = false

theorem put_defers {a : Act} {d : Option Nat} {v : Value} : (a.put d v).defers = a.defers := by cases d <;> rfl
theorem put_size {a : Act} {d : Option Nat} {v : Value} : (a.put d v).tmps.size = a.tmps.size := by cases d <;> simp [Act.put]
theorem put_get_eq {a : Act} {d : Option Nat} {t : Nat} {v : Value} (hd : d = some t) (ht : t < a.tmps.size) : (a.put d v).tmps[t]? = some v := by subst hd; simp [Act.put, ht]
theorem put_get_ne {a : Act} {d : Option Nat} {t : Nat} {v : Value} (hd : d ≠ some t) : (a.put d v).tmps[t]? = a.tmps[t]? := by
  cases d with
  | none => rfl
  | some d => simp only [Act.put]; exact Array.getElem?_setIfInBounds_ne (fun e => hd (by rw [e]))
theorem finEnv_get {t : Nat} {v : Value} : ∀ {l : List Oper} {vs : List Value} {E : Env}, eget (finEnv l vs E) t = some v →
    (∃ (i : Nat) (o : Oper), l[i]? = some o ∧ o.dst = some t ∧ vs[i]? = some v) ∨ (eget E t = some v ∧ ∀ (i : Nat) (o : Oper), i < vs.length → l[i]? = some o → o.dst ≠ some t)
  | [], vs, E, hv => .inr ⟨by cases vs <;> simpa [finEnv] using hv, fun i o _ ho => by simp at ho⟩
  | o :: os, [], E, hv => .inr ⟨by simpa [finEnv] using hv, fun i o hi => by simp at hi⟩
  | o :: os, u :: vs, E, hv => by
    unfold finEnv at hv
    rcases finEnv_get hv with ⟨i, o', h1, h2, h3⟩ | ⟨h1, h2⟩
    · exact .inl ⟨i + 1, o', by simpa using h1, h2, by simpa using h3⟩
    · cases hd : o.dst with
      | none =>
        rw [hd] at h1
        refine .inr ⟨h1, fun i o' hi ho' => ?_⟩
        cases i with
        | zero => simp at ho'; subst ho'; simp [hd]
        | succ i => exact h2 i o' (by simpa using hi) (by simpa using ho')
      | some d =>
        rw [hd] at h1
        simp only [eget_cons] at h1
        split at h1
        · rename_i e
          cases h1
          exact .inl ⟨0, o, rfl, by rw [hd, e], rfl⟩
        · rename_i hne
          refine .inr ⟨h1, fun i o' hi ho' => ?_⟩
          cases i with
          | zero => simp at ho'; subst ho'; rw [hd]; exact fun e => hne (Option.some.inj e)
          | succ i => exact h2 i o' (by simpa using hi) (by simpa using ho')

/-- The region goes on well from wherever the known operations may have been done. -/
def Stage (P : Program) (n : Nat) (B : Base) (ops : Array Oper) (E : Env) (h : GH) (L : Own) (ks dn : List Bool) (vs : List Value) (Q : Post) : Prop :=
  ∀ (u fuel : Nat) (listed : Array Bool) (a : Act) (w : World), unlisted listed vs.length = u → fuel = u + (ops.size - vs.length) → DrawInv B ops E h L ks dn vs n listed a w → wpAny P .any ops Q fuel listed a w
/-- What is not known yet waits for something that is not known; but for e. -/
def waits (ops : Array Oper) (ks : List Bool) (m : Nat) (cand : List Nat) : Bool :=
  ops.toList.zipIdx.all fun p => Nat.ble m p.2 || (cand.any fun e => Nat.beq p.2 e) || ks.getD p.2 false || (deps p.1).any fun d => !ks.getD d.on false
theorem waits_spec {ks : List Bool} {m : Nat} {cand : List Nat} (hw : waits ops ks m cand = true) : ∀ (i : Nat) o, i < m → i ∉ cand → ops[i]? = some o → ks.getD i false = false → ∃ d ∈ deps o, ks.getD d.on false = false := by
  intro i o hi hie ho hk
  have := List.all_eq_true.1 hw (o, i) (by rw [List.mk_mem_zipIdx_iff_getElem?]; simpa using ho)
  simp only [Bool.or_eq_true, hk, Bool.false_eq_true, or_false] at this
  rcases this with (h | h) | h
  · have := Nat.le_of_ble_eq_true h; omega
  · obtain ⟨e, he, hb⟩ := List.any_eq_true.1 h
    exact absurd ((Nat.eq_of_beq_eq_true hb) ▸ he) hie
  · obtain ⟨d, hd, hk⟩ := List.any_eq_true.1 h
    exact ⟨d, hd, by simpa using hk⟩
def OpXG (P : Program) (B : Base) (ops : Array Oper) (E : Env) (h : GH) (L : Own) (o : Oper) (R : Value → GH → Own → Prop) : Prop :=
  ∀ n a w, EnvOk n E a → Step B h L w → ∀ (K : Act → World → Prop) (Q : Post), (∀ v h' L' w', GH.le h h' → R v h' L' → Step B h' L' w' → K (a.put o.dst v) w') →
    if Region.wanted o (yielded ops a.tmps) then o.wp P a w K Q else K (a.put o.dst undef) w
def Agree : List Bool → List Value → List Value → Prop
  | true :: ks, v :: vs, v' :: vs' => v' = v ∧ Agree ks vs vs'
  | false :: ks, _ :: vs, _ :: vs' => Agree ks vs vs'
  | [], [], [] => True
  | _, _, _ => False
theorem Agree.spec : ∀ {ks : List Bool} {vs vs' : List Value}, Agree ks vs vs' → vs'.length = vs.length ∧ ks.length = vs.length ∧ ∀ i : Nat, ks.getD i false = true → vs'[i]? = vs[i]?
  | [], [], [], _ => ⟨rfl, rfl, fun i hi => by simp at hi⟩
  | true :: ks, v :: vs, v' :: vs', ha => by
    obtain ⟨h1, h2, h3⟩ := Agree.spec ha.2
    refine ⟨by simp [h1], by simp [h2], fun i hi => ?_⟩
    cases i with
    | zero => simp [ha.1]
    | succ i => simpa using h3 i (by simpa using hi)
  | false :: ks, v :: vs, v' :: vs', ha => by
    obtain ⟨h1, h2, h3⟩ := Agree.spec (ks := ks) ha
    refine ⟨by simp [h1], by simp [h2], fun i hi => ?_⟩
    cases i with
    | zero => simp at hi
    | succ i => simpa using h3 i (by simpa using hi)
  | [], [], _ :: _, ha => ha.elim
  | [], _ :: _, _, ha => ha.elim
  | true :: _, [], _, ha => ha.elim
  | false :: _, [], _, ha => ha.elim
  | true :: _, _ :: _, [], ha => ha.elim
  | false :: _, _ :: _, [], ha => ha.elim
theorem Stage.final {vs : List Value} {ks dn : List Bool} (df : DrawFacts ops vs.length n) (hks : ∀ i, i < vs.length → ks.getD i false = true) (hf : FrontOk P B ops (ops.toList.take vs.length) E h L ks dn vs 0 ops.toList vs)
    (ht : RunL P n B ops (ops.toList.drop vs.length) (finEnv ops.toList vs E) h L Q) : Stage P n B ops E h L ks dn vs Q
  | 0, fuel, listed, a, w, hu, hfu, inv => by
    have hall : ∀ j, j < vs.length → listed.getD j true = true := by
      intro j hj
      cases hl : listed.getD j true with
      | true => rfl
      | false =>
        have : j ∈ (List.range vs.length).filter fun j => !listed.getD j true := List.mem_filter.2 ⟨List.mem_range.2 hj, by rw [hl]; rfl⟩
        unfold unlisted at hu
        rw [List.eq_nil_of_length_eq_zero hu] at this
        cases this
    have hsz := df.size
    refine wpAny_tail (n := n) (m := vs.length) df fuel vs.length listed a w (by omega) (Nat.le_refl _) inv.lsize (fun j hj => ?_) (ht a w ⟨inv.defers, inv.asize, fun t v hv => ?_⟩ inv.step)
    · rcases Nat.lt_or_ge j vs.length with h1 | h1
      · rw [hall j h1]; simp [h1]
      · rw [inv.tail j h1 hj]; simp; omega
    · rcases finEnv_get hv with ⟨i, o, h1, h2, h3⟩ | ⟨h1, h2⟩
      · have hi : i < vs.length := (List.getElem?_eq_some_iff.1 h3).1
        exact inv.done i o t v hi (hall i hi) (by simpa using h1) h2 h3
      · exact inv.keep t v h1 fun i o hi _ ho => h2 i o hi (by simpa using ho)
  | u + 1, fuel, listed, a, w, hu, hfu, inv => by
    have hsz := df.size
    obtain ⟨f', rfl⟩ : ∃ f', fuel = f' + 1 := ⟨u + (ops.size - vs.length), by omega⟩
    -- some front operation is not listed; the first such one is ready
    have hex : ∃ j, j < vs.length ∧ listed.getD j true = false := by
      unfold unlisted at hu
      obtain ⟨j, hj⟩ := List.exists_mem_of_length_pos (l := (List.range vs.length).filter fun j => !listed.getD j true) (by omega)
      simp only [List.mem_filter, List.mem_range, Bool.not_eq_true'] at hj
      exact ⟨j, hj⟩
    have hmin : ∃ j, j < vs.length ∧ listed.getD j true = false ∧ ∀ k, k < j → listed.getD k true = true := by
      obtain ⟨j, hj⟩ := hex
      induction j using Nat.strongRecOn with
      | _ j ih =>
        by_cases hk : ∃ k, k < j ∧ listed.getD k true = false
        · obtain ⟨k, hkj, hkl⟩ := hk
          exact ih k hkj ⟨by omega, hkl⟩
        · refine ⟨j, hj.1, hj.2, fun k hkj => ?_⟩
          cases hl : listed.getD k true with
          | true => rfl
          | false => exact absurd ⟨k, hkj, hl⟩ hk
    obtain ⟨j0, hj0, hj0l, hj0m⟩ := hmin
    have hready : j0 ∈ Region.ready .any ops listed := by
      obtain ⟨o, ho⟩ : ∃ o, ops[j0]? = some o := ⟨ops[j0]'(by omega), by simp [show j0 < ops.size by omega]⟩
      refine mem_ready.2 ⟨by omega, hj0l, o, ho, fun e he => ?_⟩
      have := df.back j0 o ho e he
      rw [getD_any (by have := inv.lsize; omega) false true]
      exact hj0m e.on this
    refine ⟨(fun hnil => by rw [hnil] at hready; cases hready), fun i hi => ?_⟩
    obtain ⟨hi1, hi2, o, ho, hi3⟩ := mem_ready.1 hi
    have him : i < vs.length := by
      rcases Nat.lt_or_ge i vs.length with hh | hh
      · exact hh
      · exfalso
        have h4 := (df.tail i o hh ho j0 (by omega)).listed (P := fun j => j < ops.size ∧ listed.getD j true = true) (fun i' o' ho' hi' e he => ⟨Nat.lt_trans (df.back i' o' ho' e he) hi'.1, inv.closed i' o' hi'.1 hi'.2 ho' e he⟩) (fun e he => by
          have hb := df.back i o ho e he
          have := hi3 e he
          rw [getD_any (by have := inv.lsize; omega) false true] at this
          exact ⟨by omega, this⟩)
        rw [hj0l] at h4
        cases h4.2
    obtain ⟨v, hv⟩ : ∃ v, vs[i]? = some v := ⟨vs[i], by simp⟩
    have hd := df.dst i o him ho
    have hdeps : ∀ e ∈ deps o, listed.getD e.on true = true := fun e he => by
      have h1 := df.back i o ho e he
      rw [← getD_any (by have := inv.lsize; omega) false true]
      exact hi3 e he
    have hop := FrontOk.get hf (j := i) (o := o) (v := v) (by simpa using ho) hv (by simpa using hks i him) (by cases hdi : dn.getD (0 + i) false with
        | false => rfl
        | true => rw [Nat.zero_add] at hdi; rw [inv.dnl i hdi] at hi2; cases hi2)
    simp only [Nat.zero_add] at hop
    have henv : EnvOk n (depEnv ops vs (deps o) ++ keepEnv (ops.toList.take vs.length) i E) a := by
      refine ⟨inv.defers, inv.asize, fun t u' hu' => ?_⟩
      rw [eget_append] at hu'
      cases h1 : eget (depEnv ops vs (deps o)) t with
      | some u1 =>
        rw [h1] at hu'
        obtain rfl : u1 = u' := Option.some.inj hu'
        obtain ⟨e, he, o', ho', hod, hvs⟩ := eget_depEnv h1
        exact inv.done e.on o' t u1 (List.getElem?_eq_some_iff.1 hvs).1 (hdeps e he) ho' hod hvs
      | none =>
        rw [h1] at hu'
        simp only [Option.none_or] at hu'
        obtain ⟨h2, h3⟩ := eget_keepEnv hu'
        refine inv.keep t u' h3 fun j oj hj hjl hoj hdj => ?_
        obtain ⟨e, he, hei⟩ := mayKeep_spec h2 oj (List.mem_iff_getElem?.2 ⟨j, by rw [List.getElem?_take_of_lt hj]; simpa using hoj⟩) hdj
        have := inv.closed j oj (by omega) hjl hoj e he
        rw [hei, hi2] at this
        cases this
    have hnext : ∀ w', Step B h L w' → wpAny P .any ops Q f' (listed.setIfInBounds i true) (a.put o.dst v) w' := fun w' hw' => by
      have hil : i < listed.size := by have := inv.lsize; omega
      refine Stage.final df hks hf ht u f' _ _ w' (by have := unlisted_set hil him hi2; omega) (by omega) ⟨fun i hi _ => hks i hi, (fun j hj => by rw [getD_listed hil]; split <;> first | rfl | exact inv.dnl j hj), by rw [put_defers]; exact inv.defers, by rw [put_size]; exact inv.asize, hw', by simpa using inv.lsize, ?_, ?_, ?_, ?_⟩
      · intro j oj dj vj hj hjl hoj hdj hvj
        by_cases hij : i = j
        · subst hij
          rw [ho] at hoj; cases hoj
          rw [hv] at hvj; cases hvj
          exact put_get_eq hdj (by rw [inv.asize]; exact hd _ hdj)
        · rw [getD_listed hil, if_neg hij] at hjl
          rw [put_get_ne (fun e => hij (df.apart i j o oj dj him hj ho hoj e hdj))]
          exact inv.done j oj dj vj hj hjl hoj hdj hvj
      · intro t u' hu' hno
        rw [put_get_ne (hno i o him (by rw [getD_listed hil, if_pos rfl]) ho)]
        refine inv.keep t u' hu' fun j oj hj hjl hoj => hno j oj hj ?_ hoj
        rw [getD_listed hil]
        split
        · rfl
        · exact hjl
      · intro j oj hj hjl hoj e he
        rw [getD_listed hil]
        split
        · rfl
        · by_cases hij : i = j
          · subst hij
            rw [ho] at hoj; cases hoj
            exact hdeps e he
          · rw [getD_listed hil, if_neg hij] at hjl
            exact inv.closed j oj hj hjl hoj e he
      · intro j hj1 hj2
        rw [getD_listed hil, if_neg (by omega)]
        exact inv.tail j hj1 hj2
    have := hop n a w henv inv.step _ Q hnext
    unfold wpOp
    simp only [ho]
    split
    · rename_i hw'
      rw [if_pos hw'] at this
      exact .inl this
    · rename_i hw'
      rw [if_neg hw'] at this
      exact this

theorem DrawInv.env {ks dn : List Bool} {vs : List Value} {listed : Array Bool} {a : Act} {w : World} (df : DrawFacts ops vs.length n) (inv : DrawInv B ops E h L ks dn vs n listed a w) {i : Nat} {o : Oper} (hil : i < ops.size) (ho : ops[i]? = some o)
    (hi2 : listed.getD i true = false) (hdeps : ∀ e ∈ deps o, listed.getD e.on true = true) : EnvOk n (depEnv ops vs (deps o) ++ keepEnv (ops.toList.take vs.length) i E) a := by
  have hsz := df.size
  refine ⟨inv.defers, inv.asize, fun t u' hu' => ?_⟩
  rw [eget_append] at hu'
  cases h1 : eget (depEnv ops vs (deps o)) t with
  | some u1 =>
    rw [h1] at hu'
    obtain rfl : u1 = u' := Option.some.inj hu'
    obtain ⟨e, he, o', ho', hod, hvs⟩ := eget_depEnv h1
    exact inv.done e.on o' t u1 (List.getElem?_eq_some_iff.1 hvs).1 (hdeps e he) ho' hod hvs
  | none =>
    rw [h1] at hu'
    simp only [Option.none_or] at hu'
    obtain ⟨h2, h3⟩ := eget_keepEnv hu'
    refine inv.keep t u' h3 fun j oj hj hjl hoj hdj => ?_
    obtain ⟨e, he, hei⟩ := mayKeep_spec h2 oj (List.mem_iff_getElem?.2 ⟨j, by rw [List.getElem?_take_of_lt hj]; simpa using hoj⟩) hdj
    have := inv.closed j oj (by omega) hjl hoj e he
    rw [hei, hi2] at this
    cases this
theorem DrawInv.next {h' : GH} {L' : Own} {ks ks' dn dn' : List Bool} {vs vs' : List Value} {listed : Array Bool} {a : Act} {w w' : World} (df : DrawFacts ops vs.length n) (inv : DrawInv B ops E h L ks dn vs n listed a w) {i : Nat} {o : Oper} {v : Value} (him : i < vs.length) (ho : ops[i]? = some o) (hd : ∀ d, o.dst = some d → d < n)
    (hdeps : ∀ e ∈ deps o, listed.getD e.on true = true) (hlen : vs'.length = vs.length) (hag : ∀ j : Nat, ks.getD j false = true → ks'.getD j false = true ∧ vs'[j]? = vs[j]?) (hki : ks'.getD i false = true) (hv : vs'[i]? = some v)
    (hdn' : ∀ j, dn'.getD j false = true → dn.getD j false = true ∨ j = i) (hw' : Step B h' L' w') : DrawInv B ops E h' L' ks' dn' vs' n (listed.setIfInBounds i true) (a.put o.dst v) w' := by
  have hsz := df.size
  have hil : i < listed.size := by have := inv.lsize; omega
  refine ⟨fun j hj hjl => ?_, fun j hj => ?_, by rw [put_defers]; exact inv.defers, by rw [put_size]; exact inv.asize, hw', by simpa using inv.lsize, ?_, ?_, ?_, ?_⟩
  · by_cases hij : i = j
    · subst hij; exact hki
    · rw [getD_listed hil, if_neg hij] at hjl
      exact (hag j (inv.known j (by omega) hjl)).1
  · rw [getD_listed hil]
    split
    · rfl
    · rename_i hne
      rcases hdn' j hj with h | h
      · exact inv.dnl j h
      · exact absurd h.symm hne
  · intro j oj dj vj hj hjl hoj hdj hvj
    by_cases hij : i = j
    · subst hij
      rw [ho] at hoj; cases hoj
      rw [hv] at hvj; cases hvj
      exact put_get_eq hdj (by rw [inv.asize]; exact hd _ hdj)
    · rw [getD_listed hil, if_neg hij] at hjl
      rw [put_get_ne (fun e => hij (df.apart i j o oj dj him (by omega) ho hoj e hdj))]
      rw [(hag j (inv.known j (by omega) hjl)).2] at hvj
      exact inv.done j oj dj vj (by omega) hjl hoj hdj hvj
  · intro t u' hu' hno
    rw [put_get_ne (hno i o (by omega) (by rw [getD_listed hil, if_pos rfl]) ho)]
    refine inv.keep t u' hu' fun j oj hj hjl hoj => hno j oj (by omega) ?_ hoj
    rw [getD_listed hil]
    split
    · rfl
    · exact hjl
  · intro j oj hj hjl hoj e he
    rw [getD_listed hil]
    split
    · rfl
    · by_cases hij : i = j
      · subst hij
        rw [ho] at hoj; cases hoj
        exact hdeps e he
      · rw [getD_listed hil, if_neg hij] at hjl
        exact inv.closed j oj hj hjl hoj e he
  · intro j hj1 hj2
    rw [getD_listed hil, if_neg (by omega)]
    exact inv.tail j (by omega) hj2

/-- One that acts may go next. -/
def ActOk (P : Program) (n : Nat) (B : Base) (ops : Array Oper) (E : Env) (h : GH) (L : Own) (ks dn : List Bool) (vs : List Value) (Q : Post) (e : Nat) : Prop :=
  ∃ (ks' dn' : List Bool) (oe : Oper) (R : Value → GH → Own → Prop), e < vs.length ∧ ks.getD e false = false ∧ (∀ i, ks.getD i false = true → ks'.getD i false = true) ∧ ks'.getD e false = true ∧ (∀ j, dn'.getD j false = true → dn.getD j false = true ∨ j = e) ∧ ops[e]? = some oe ∧
    OpXG P B ops (depEnv ops vs (deps oe) ++ keepEnv (ops.toList.take vs.length) e E) h L oe R ∧
    ∀ v h' L', GH.le h h' → R v h' L' → ∃ vs', Agree ks vs vs' ∧ vs'[e]? = some v ∧ Stage P n B ops E h' L' ks' dn' vs' Q
theorem Stage.effect {vs : List Value} {ks dn : List Bool} (df : DrawFacts ops vs.length n) (cand : List Nat) (hne : cand ≠ []) (hwt : waits ops ks vs.length cand = true) (hf : FrontOk P B ops (ops.toList.take vs.length) E h L ks dn vs 0 ops.toList vs)
    (hc : ∀ e ∈ cand, ActOk P n B ops E h L ks dn vs Q e) : Stage P n B ops E h L ks dn vs Q
  | 0, fuel, listed, a, w, hu, hfu, inv => by
    exfalso
    obtain ⟨e, hecand⟩ := List.exists_mem_of_ne_nil _ hne
    obtain ⟨ks', dn', oe, R, hem, hke, hsub, hke', hdn', hoe, he, next⟩ := hc e hecand
    have : listed.getD e true = true := by
      cases hl : listed.getD e true with
      | true => rfl
      | false =>
        have : e ∈ (List.range vs.length).filter fun j => !listed.getD j true := List.mem_filter.2 ⟨List.mem_range.2 hem, by rw [hl]; rfl⟩
        unfold unlisted at hu
        rw [List.eq_nil_of_length_eq_zero hu] at this
        cases this
    rw [inv.known e hem this] at hke
    cases hke
  | u + 1, fuel, listed, a, w, hu, hfu, inv => by
    have hsz := df.size
    obtain ⟨f', rfl⟩ : ∃ f', fuel = f' + 1 := ⟨u + (ops.size - vs.length), by omega⟩
    have hex : ∃ j, j < vs.length ∧ listed.getD j true = false := by
      unfold unlisted at hu
      obtain ⟨j, hj⟩ := List.exists_mem_of_length_pos (l := (List.range vs.length).filter fun j => !listed.getD j true) (by omega)
      simp only [List.mem_filter, List.mem_range, Bool.not_eq_true'] at hj
      exact ⟨j, hj⟩
    have hmin : ∃ j, j < vs.length ∧ listed.getD j true = false ∧ ∀ k, k < j → listed.getD k true = true := by
      obtain ⟨j, hj⟩ := hex
      induction j using Nat.strongRecOn with
      | _ j ih =>
        by_cases hk : ∃ k, k < j ∧ listed.getD k true = false
        · obtain ⟨k, hkj, hkl⟩ := hk
          exact ih k hkj ⟨by omega, hkl⟩
        · refine ⟨j, hj.1, hj.2, fun k hkj => ?_⟩
          cases hl : listed.getD k true with
          | true => rfl
          | false => exact absurd ⟨k, hkj, hl⟩ hk
    obtain ⟨j0, hj0, hj0l, hj0m⟩ := hmin
    have hready : j0 ∈ Region.ready .any ops listed := by
      obtain ⟨o, ho⟩ : ∃ o, ops[j0]? = some o := ⟨ops[j0]'(by omega), by simp [show j0 < ops.size by omega]⟩
      refine mem_ready.2 ⟨by omega, hj0l, o, ho, fun e he => ?_⟩
      have := df.back j0 o ho e he
      rw [getD_any (by have := inv.lsize; omega) false true]
      exact hj0m e.on this
    refine ⟨(fun hnil => by rw [hnil] at hready; cases hready), fun i hi => ?_⟩
    obtain ⟨hi1, hi2, o, ho, hi3⟩ := mem_ready.1 hi
    have him : i < vs.length := by
      rcases Nat.lt_or_ge i vs.length with hh | hh
      · exact hh
      · exfalso
        have h4 := (df.tail i o hh ho j0 (by omega)).listed (P := fun j => j < ops.size ∧ listed.getD j true = true) (fun i' o' ho' hi' e he => ⟨Nat.lt_trans (df.back i' o' ho' e he) hi'.1, inv.closed i' o' hi'.1 hi'.2 ho' e he⟩) (fun e he => by
          have hb := df.back i o ho e he
          have := hi3 e he
          rw [getD_any (by have := inv.lsize; omega) false true] at this
          exact ⟨by omega, this⟩)
        rw [hj0l] at h4
        cases h4.2
    have hd := df.dst i o him ho
    have hdeps : ∀ e ∈ deps o, listed.getD e.on true = true := fun e he => by
      have h1 := df.back i o ho e he
      rw [← getD_any (by have := inv.lsize; omega) false true]
      exact hi3 e he
    have henv := inv.env df hi1 ho hi2 hdeps
    have hil : i < listed.size := by have := inv.lsize; omega
    have hun := unlisted_set hil him hi2
    unfold wpOp
    simp only [ho]
    by_cases hie : i ∈ cand
    · obtain ⟨ks', dn', oe, R, hem, hke, hsub, hke', hdn', hoe, he, next⟩ := hc i hie
      rw [hoe] at ho; cases ho
      have := he n a w henv inv.step (wpAny P .any ops Q f' (listed.setIfInBounds i true)) Q (fun v h' L' w' hle hR hw' => by
        obtain ⟨vs', hag, hv', hst⟩ := next v h' L' hle hR
        obtain ⟨g1, g2, g3⟩ := hag.spec
        refine hst u f' _ _ w' (by rw [g1]; omega) (by rw [g1]; omega) (inv.next df him hoe hd hdeps g1 (fun j hj => ⟨hsub j hj, g3 j hj⟩) hke' hv' hdn' hw'))
      split
      · rename_i hw'
        rw [if_pos hw'] at this
        exact .inl this
      · rename_i hw'
        rw [if_neg hw'] at this
        exact this
    · cases hk : ks.getD i false with
      | false =>
        exfalso
        obtain ⟨dd, hdd, hdk⟩ := waits_spec hwt i o him hie ho hk
        have h1 := hdeps dd hdd
        have h2 := df.back i o ho dd hdd
        rw [inv.known dd.on (by omega) h1] at hdk
        cases hdk
      | true =>
        obtain ⟨v, hv⟩ : ∃ v, vs[i]? = some v := ⟨vs[i], by simp⟩
        have hop := FrontOk.get hf (j := i) (o := o) (v := v) (by simpa using ho) hv (by simpa using hk) (by cases hdi : dn.getD (0 + i) false with
          | false => rfl
          | true => rw [Nat.zero_add] at hdi; rw [inv.dnl i hdi] at hi2; cases hi2)
        simp only [Nat.zero_add] at hop
        have := hop n a w henv inv.step (wpAny P .any ops Q f' (listed.setIfInBounds i true)) Q (fun w' hw' =>
          Stage.effect df cand hne hwt hf hc u f' _ _ w' (by omega) (by omega) (inv.next df him ho hd hdeps rfl (fun j hj => ⟨hj, rfl⟩) hk hv (fun j hj => .inl hj) hw'))
        split
        · rename_i hw'
          rw [if_pos hw'] at this
          exact .inl this
        · rename_i hw'
          rw [if_neg hw'] at this
          exact this

/-- A region that draws its order. -/
theorem Run.drawS {id : Nat} {l : List Oper} (m : Nat) (ks : List Bool) (vs : List Value) (hm : P.follows .mixedOrders = true) (hlen : vs.length = m) (hd : drawOk l.toArray m n = true) (hs : Stage P n B l.toArray E h L ks [] vs Q) : Run P n B (.region id l.toArray true) E h L Q := by
  subst hlen
  intro a w ha hw
  have df := drawOk_spec hd
  refine wp_region_any hm ?_
  have hl0 : ∀ j x, j < l.length → (Array.replicate l.toArray.size false).getD j x = false := fun j x hj => by simp [Array.getD_eq_getD_getElem?, hj]
  refine hs _ _ _ a w.drew rfl ?_ ⟨?_, fun i hi => by simp at hi, ha.defers, ha.size, hw.drew, by simp, ?_, fun t v hv _ => ha.get t v hv, ?_, fun i _ hi => hl0 i true (by simpa using hi)⟩
  · have hsz := df.size
    have hfil : (List.range vs.length).filter (fun j => !(Array.replicate l.toArray.size false).getD j true) = List.range vs.length := by
      apply List.filter_eq_self.2
      intro j hj
      rw [hl0 j true (by have := List.mem_range.1 hj; simp at hsz; omega)]
      rfl
    unfold unlisted
    rw [hfil]
    simp at hsz ⊢
    omega
  · intro i hi hil
    rw [hl0 i true (by have := df.size; simp at this; omega)] at hil
    cases hil
  · intro i o d v hi hil
    rw [hl0 i true (by have := df.size; simp at this; omega)] at hil
    cases hil
  · intro i o hi hil
    rw [hl0 i true (by simpa using hi)] at hil
    cases hil
theorem FrontOk.nil {front : List Oper} {ks dn : List Bool} {vs : List Value} {i : Nat} {l : List Oper} : FrontOk P B ops front E h L ks dn vs i l [] := by cases l <;> trivial
theorem FrontOk.cons {front : List Oper} {ks dn : List Bool} {vs vs' : List Value} {i : Nat} {o : Oper} {os : List Oper} {v : Value} (h1 : OpG P B ops (depEnv ops vs (deps o) ++ keepEnv front i E) h L o v) (h2 : FrontOk P B ops front E h L ks dn vs (i + 1) os vs') :
    FrontOk P B ops front E h L ks dn vs i (o :: os) (v :: vs') := ⟨fun _ _ => h1, h2⟩
theorem FrontOk.skip {front : List Oper} {ks dn : List Bool} {vs vs' : List Value} {i : Nat} {o : Oper} {os : List Oper} {v : Value} (hk : ks.getD i false = false) (h2 : FrontOk P B ops front E h L ks dn vs (i + 1) os vs') :
    FrontOk P B ops front E h L ks dn vs i (o :: os) (v :: vs') := ⟨(fun hc _ => by rw [hk] at hc; cases hc), h2⟩
theorem FrontOk.done {front : List Oper} {ks dn : List Bool} {vs vs' : List Value} {i : Nat} {o : Oper} {os : List Oper} {v : Value} (hk : dn.getD i false = true) (h2 : FrontOk P B ops front E h L ks dn vs (i + 1) os vs') :
    FrontOk P B ops front E h L ks dn vs i (o :: os) (v :: vs') := ⟨(fun _ hc => by rw [hk] at hc; cases hc), h2⟩
def normE : Env → Option Env
  | [] => some []
  | (k, v) :: E => match normE E with | some l => some ((k, v) :: l) | none => none
theorem normE_eq : ∀ E : Env, normE E = some E
  | [] => rfl
  | (k, v) :: E => by simp [normE, normE_eq E]
def normO : List Oper → Option (List Oper)
  | [] => some []
  | o :: os => match normO os with | some l => some (o :: l) | none => none
theorem normO_eq : ∀ l : List Oper, normO l = some l
  | [] => rfl
  | o :: os => by simp [normO, normO_eq os]
/-- All is known: the end of a drawn region. -/
theorem Stage.last {l lt : List Oper} {Et : Env} {ks dn : List Bool} {vs : List Value} (m : Nat) (hv : vs.length = m) (hd : drawOk l.toArray m n = true) (hks : ks.all id = true) (hkl : ks.length = m) (hf : FrontOk P B l.toArray (l.take m) E h L ks dn vs 0 l vs)
    (h1 : normO (l.drop m) = some lt) (h2 : normE (finEnv l vs E) = some Et) (ht : RunL P n B l.toArray lt Et h L Q) : Stage P n B l.toArray E h L ks dn vs Q := by
  subst hv
  rw [normO_eq] at h1
  rw [normE_eq] at h2
  cases h1
  cases h2
  refine Stage.final (drawOk_spec hd) (fun i hi => ?_) (by simpa using hf) (by simpa using ht)
  have : i < ks.length := by omega
  have hm := List.all_eq_true.1 hks ks[i] (List.getElem_mem this)
  simpa [List.getD, this] using hm
def allSub : List Bool → List Bool → Bool
  | [], _ => true
  | a :: as, b :: bs => (!a || b) && allSub as bs
  | _ :: _, [] => false
theorem allSub_spec : ∀ {as bs : List Bool}, allSub as bs = true → ∀ i, as.getD i false = true → bs.getD i false = true
  | [], _, _, i, hi => by simp at hi
  | a :: as, b :: bs, hs, i, hi => by
    simp only [allSub, Bool.and_eq_true, Bool.or_eq_true, Bool.not_eq_true'] at hs
    cases i with
    | zero => simp at hi ⊢; rcases hs.1 with h | h <;> simp_all
    | succ i => simpa using allSub_spec hs.2 i (by simpa using hi)
  | _ :: _, [], hs, _, _ => by cases hs
/-- Every mark of the second list stands in the first one, too; but for that at e. -/
def plusOne (e : Nat) : Nat → List Bool → List Bool → Bool
  | _, _, [] => true
  | i, [], b :: bs => (!b || Nat.beq i e) && plusOne e (i + 1) [] bs
  | i, a :: as, b :: bs => (!b || a || Nat.beq i e) && plusOne e (i + 1) as bs
theorem plusOne_spec {e : Nat} : ∀ {bs as : List Bool} {i : Nat}, plusOne e i as bs = true → ∀ j, bs.getD j false = true → as.getD j false = true ∨ i + j = e
  | [], _, _, _, j, hj => by simp at hj
  | b :: bs, [], i, hp, j, hj => by
    simp only [plusOne, Bool.and_eq_true, Bool.or_eq_true, Bool.not_eq_true'] at hp
    cases j with
    | zero =>
      simp at hj
      rcases hp.1 with h | h
      · rw [h] at hj; cases hj
      · exact .inr (by simpa using Nat.eq_of_beq_eq_true h)
    | succ j =>
      rcases plusOne_spec hp.2 j (by simpa using hj) with h | h
      · simp at h
      · exact .inr (by omega)
  | b :: bs, a :: as, i, hp, j, hj => by
    simp only [plusOne, Bool.and_eq_true, Bool.or_eq_true, Bool.not_eq_true'] at hp
    cases j with
    | zero =>
      simp at hj
      rcases hp.1 with (h | h) | h
      · rw [h] at hj; cases hj
      · exact .inl (by simpa using h)
      · exact .inr (by simpa using Nat.eq_of_beq_eq_true h)
    | succ j =>
      rcases plusOne_spec hp.2 j (by simpa using hj) with h | h
      · exact .inl (by simpa using h)
      · exact .inr (by omega)
/-- What acts goes next; what is known may go ahead of it. -/
theorem Stage.act {l : List Oper} {ks dn : List Bool} {vs : List Value} (m : Nat) (cand : List Nat) (hv : vs.length = m) (hd : drawOk l.toArray m n = true) (hchk : (!cand.isEmpty && waits l.toArray ks m cand) = true)
    (hf : FrontOk P B l.toArray (l.take m) E h L ks dn vs 0 l vs) (hc : ∀ e ∈ cand, ActOk P n B l.toArray E h L ks dn vs Q e) : Stage P n B l.toArray E h L ks dn vs Q := by
  subst hv
  simp only [Bool.and_eq_true, Bool.not_eq_true'] at hchk
  exact Stage.effect (drawOk_spec hd) cand (by intro e; subst e; simp at hchk) hchk.2 (by simpa using hf) hc
theorem ActOk.mk {l : List Oper} {ks dn : List Bool} {vs : List Value} {oe : Oper} {R : Value → GH → Own → Prop} {e : Nat} (m : Nat) (ks' dn' : List Bool) (hv : vs.length = m) (hchk : (Nat.blt e m && !ks.getD e false && ks'.getD e false && allSub ks ks' && plusOne e 0 dn dn') = true) (hoe : l[e]? = some oe)
    (he : OpXG P B l.toArray (depEnv l.toArray vs (deps oe) ++ keepEnv (l.take m) e E) h L oe R)
    (next : ∀ v h' L', GH.le h h' → R v h' L' → ∃ vs', Agree ks vs vs' ∧ vs'[e]? = some v ∧ Stage P n B l.toArray E h' L' ks' dn' vs' Q) : ActOk P n B l.toArray E h L ks dn vs Q e := by
  subst hv
  simp only [Bool.and_eq_true, Bool.not_eq_true'] at hchk
  obtain ⟨⟨⟨⟨c1, c2⟩, c3⟩, c4⟩, c5⟩ := hchk
  exact ⟨ks', dn', oe, R, Nat.le_of_ble_eq_true c1, c2, allSub_spec c4, c3, (fun j hj => by have := plusOne_spec c5 j hj; simpa using this), by simpa using hoe, by simpa using he, next⟩
theorem all_nil {p : Nat → Prop} : ∀ e ∈ ([] : List Nat), p e := fun _ he => by cases he
theorem all_cons {p : Nat → Prop} {e : Nat} {l : List Nat} (h1 : p e) (h2 : ∀ e ∈ l, p e) : ∀ e' ∈ e :: l, p e' := fun e' he => by
  rcases List.mem_cons.1 he with rfl | he
  · exact h1
  · exact h2 e' he
theorem Run.drawn {id : Nat} {l lt : List Oper} {Et : Env} (m : Nat) (vs : List Value) (hm : P.follows .mixedOrders = true) (hv : vs.length = m) (hd : drawOk l.toArray m n = true) (hf : FrontOk P B l.toArray (l.take m) E h L (List.replicate m true) [] vs 0 l vs)
    (h1 : normO (l.drop m) = some lt) (h2 : normE (finEnv l vs E) = some Et) (ht : RunL P n B l.toArray lt Et h L Q) : Run P n B (.region id l.toArray true) E h L Q :=
  Run.drawS m (List.replicate m true) vs hm hv hd (Stage.last m hv hd (by simp) (by simp) hf h1 h2 ht)
theorem OpXG.of_run {o : Oper} {R : Value → GH → Own → Prop} (hg : o.guard = none) (hrun : ∀ n a w, EnvOk n E a → Step B h L w → ∃ v w' h' L', (execOp a.eval o).run P w = .ok (.value v) w' ∧ GH.le h h' ∧ R v h' L' ∧ Step B h' L' w') : OpXG P B ops E h L o R :=
  fun n a w ha hw K Q hK => by
    simp only [Region.wanted, hg, if_true]
    obtain ⟨v, w', h', L', hr, hle, hR, hw'⟩ := hrun n a w ha hw
    unfold Oper.wp
    rw [hr]
    exact hK v h' L' w' hle hR hw'
variable {d : Option Tmp} {ty : TypeId} {pos : String} {af : Array Edge} {x y : Operand} {t : TypeId}
theorem OpXG.call {f : FuncId} {xs : List Operand} {vs : List Value} {tys : Array TypeId} {Lc R0 : Own} {R : Value → GH → Own → Prop} (hc : callable P f = true) (hv : evs E xs = some vs) (ht : Take Lc L R0) (hs : Ctr P f vs.toArray h Lc R) :
    OpXG P B ops E h L ⟨d, .call ⟨.value (.func f), xs.toArray, tys⟩, ty, pos, af, none⟩ (fun v h' L' => ∃ N, R v h' N ∧ L' = N ++ R0) := by
  intro n a w ha hw K Q hK
  simp only [Region.wanted, if_true]
  have hw' : Step B h (Lc ++ R0) w := hw.perm ht
  refine Oper.wp_call (R := fun v w' => ∃ h' N, GH.le h h' ∧ R v h' N ∧ Step B h' (N ++ R0) w') (run_call hc (evs_spec hv ha)) ((hs w (hw'.pre_of (List.sublist_append_left _ _))).mono ?_) ?_
  · rintro e w' ⟨r, h', N, he, hr, st⟩
    exact ⟨r, he, h', N, st.gle, hr, Step.call hw' st⟩
  · rintro v w' ⟨h', N, hle, hr, st⟩
    exact hK v h' (N ++ R0) w' hle ⟨N, hr, rfl⟩ st
theorem OpXG.newBlock {o : Oper} {obj : Obj} {mk : Nat → Value} (hg : o.guard = none) (hrun : ∀ n a w, EnvOk n E a → Step B h L w → (execOp a.eval o).run P w = .ok (.value (mk w.heap.size)) (w.alloc obj)) :
    OpXG P B ops E h L o (fun v h' L' => h' = h ∧ ∃ b, v = mk b ∧ L' = (b, obj) :: L) :=
  OpXG.of_run hg fun n a w ha hw => ⟨_, _, h, (w.heap.size, obj) :: L, hrun n a w ha hw, GH.le.refl h, ⟨rfl, _, rfl, rfl⟩, hw.alloc obj⟩
end
end Go.Proofs.YtcckofgleghbgaaDoor.Sx
