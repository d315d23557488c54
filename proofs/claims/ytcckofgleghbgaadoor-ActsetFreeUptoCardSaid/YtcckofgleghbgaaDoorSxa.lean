import Derived.WalkKit
import Derived.Orders
namespace Go.Proofs.YtcckofgleghbgaaDoor.Sx
open Go

/-- Ghost heap: the blocks that nobody writes any more, with what they hold. -/
abbrev GH := Nat → Option Obj
/-- Blocks owned, with what they hold. -/
abbrev Own := List (Nat × Obj)
abbrev Env := List (Nat × Value)
abbrev Post := Exit → Act → World → Prop

def GH.le (h h' : GH) : Prop := ∀ b o, h b = some o → h' b = some o
theorem GH.le.refl (h : GH) : GH.le h h := fun _ _ x => x
theorem GH.le.trans {a b c : GH} (x : GH.le a b) (y : GH.le b c) : GH.le a c := fun k o e => y k o (x k o e)

def ids (L : Own) : List Nat := L.map (·.1)

/-- Where a piece of code begins: ghost heap, blocks that it may write, world. -/
structure Base where
  h : GH
  I : List Nat
  w : World

structure Step (B : Base) (h : GH) (L : Own) (w : World) : Prop where
  os : w.os = B.w.os
  tape : w.tape = B.w.tape
  output : w.output = B.w.output
  size : B.w.heap.size ≤ w.heap.size
  block : ∀ k, k < B.w.heap.size → k ∉ B.I → w.heap[k]? = B.w.heap[k]?
  gle : GH.le B.h h
  gnew : ∀ b, B.h b = none → h b ≠ none → b ∈ B.I ∨ B.w.heap.size ≤ b
  sub : ∀ b o, h b = some o → w.heap[b]? = some o
  own : ∀ p ∈ L, w.heap[p.1]? = some p.2
  apart : ∀ p ∈ L, h p.1 = none
  nd : (ids L).Nodup
  lnew : ∀ p ∈ L, p.1 ∈ B.I ∨ B.w.heap.size ≤ p.1

/-- What a call asks of the world it begins in. -/
def Pre (h : GH) (L : Own) (w : World) : Prop := Step ⟨h, ids L, w⟩ h L w

def Ctr (P : Program) (f : FuncId) (args : Array Value) (h : GH) (L : Own) (R : Value → GH → Own → Prop) : Prop :=
  ∀ w, Pre h L w → Calls P f args w fun e w' => ∃ v h' L', e = .returned v ∧ R v h' L' ∧ Step ⟨h, ids L, w⟩ h' L' w'

theorem Ctr.mono {P : Program} {f : FuncId} {args : Array Value} {h : GH} {L : Own} {R R' : Value → GH → Own → Prop}
    (hs : Ctr P f args h L R) (hr : ∀ v h' L', GH.le h h' → R v h' L' → R' v h' L') : Ctr P f args h L R' :=
  fun w hw => (hs w hw).mono fun _ _ ⟨v, h', L', he, r, st⟩ => ⟨v, h', L', he, hr _ _ _ st.gle r, st⟩

section
variable {B : Base} {h h' : GH} {L L' : Own} {w w' : World}

theorem Step.lt (s : Step B h L w) {b : Nat} {o : Obj} (hb : h b = some o) : b < w.heap.size := (Array.getElem?_eq_some_iff.1 (s.sub b o hb)).1
theorem Step.own_lt (s : Step B h L w) {p : Nat × Obj} (hp : p ∈ L) : p.1 < w.heap.size := (Array.getElem?_eq_some_iff.1 (s.own p hp)).1

theorem Step.pre (s : Step B h L w) : Pre h L w :=
  ⟨rfl, rfl, rfl, Nat.le_refl _, fun _ _ _ => rfl, GH.le.refl h, fun _ a b => absurd a b, s.sub, s.own, s.apart, s.nd, fun _ hp => .inl (List.mem_map_of_mem hp)⟩

/-- Owned blocks may be forgotten. -/
theorem Step.sublist (s : Step B h L w) (hl : List.Sublist L' L) : Step B h L' w :=
  { s with own := fun p hp => s.own p (hl.subset hp), apart := fun p hp => s.apart p (hl.subset hp), nd := s.nd.sublist (hl.map _), lnew := fun p hp => s.lnew p (hl.subset hp) }

theorem Step.perm (s : Step B h L w) (hl : List.Perm L L') : Step B h L' w :=
  { s with own := fun p hp => s.own p (hl.symm.subset hp), apart := fun p hp => s.apart p (hl.symm.subset hp), nd := (hl.map _).nodup s.nd, lnew := fun p hp => s.lnew p (hl.symm.subset hp) }

theorem Step.pre_of (s : Step B h L w) (hl : List.Sublist L' L) : Pre h L' w := (s.sublist hl).pre

/-- A call's outcome, seen by the caller: what it was handed (Lc) is replaced by what it hands back. -/
theorem Step.call {Lc Lr N : Own} (s : Step B h (Lc ++ Lr) w) (t : Step ⟨h, ids Lc, w⟩ h' N w') : Step B h' (N ++ Lr) w' := by
  have hI : ∀ b, b ∈ ids Lc → b ∈ B.I ∨ B.w.heap.size ≤ b := by
    intro b hb
    obtain ⟨p, hp, rfl⟩ := List.mem_map.1 hb
    exact s.lnew p (List.mem_append_left _ hp)
  have hlt : ∀ b, b ∈ ids Lc → b < w.heap.size := by
    intro b hb
    obtain ⟨p, hp, rfl⟩ := List.mem_map.1 hb
    exact s.own_lt (List.mem_append_left _ hp)
  have hnd := s.nd
  simp only [ids, List.map_append] at hnd
  have hdis : ∀ p ∈ Lr, p.1 ∉ ids Lc := by
    intro p hp hm
    have := (List.nodup_append.1 hnd).2.2
    exact this _ hm _ (List.mem_map_of_mem hp) rfl
  have keep : ∀ p ∈ Lr, w'.heap[p.1]? = some p.2 := fun p hp => by
    rw [t.block p.1 (s.own_lt (List.mem_append_right _ hp)) (hdis p hp)]
    exact s.own p (List.mem_append_right _ hp)
  refine ⟨t.os.trans s.os, t.tape.trans s.tape, t.output.trans s.output, Nat.le_trans s.size t.size, ?_, s.gle.trans t.gle, ?_, t.sub, ?_, ?_, ?_, ?_⟩
  · intro k hk hkI
    rw [t.block k (Nat.lt_of_lt_of_le hk s.size) ?_, s.block k hk hkI]
    intro hc
    rcases hI k hc with hc | hc
    · exact hkI hc
    · omega
  · intro b h0 h1
    cases hb : h b with
    | some o => exact s.gnew b h0 (by simp [hb])
    | none =>
      rcases t.gnew b hb h1 with hc | hc
      · exact hI b hc
      · exact .inr (Nat.le_trans s.size hc)
  · intro p hp
    rcases List.mem_append.1 hp with hp | hp
    · exact t.own p hp
    · exact keep p hp
  · intro p hp
    rcases List.mem_append.1 hp with hp | hp
    · exact t.apart p hp
    · cases hb : h' p.1 with
      | none => rfl
      | some o =>
        exfalso
        have hn := s.apart p (List.mem_append_right _ hp)
        rcases t.gnew p.1 hn (by simp [hb]) with hc | hc
        · exact hdis p hp hc
        · have := s.own_lt (List.mem_append_right _ hp)
          simp only at hc
          omega
  · simp only [ids, List.map_append]
    refine List.nodup_append.2 ⟨t.nd, (List.nodup_append.1 hnd).2.1, ?_⟩
    intro a ha b hb hab
    subst hab
    obtain ⟨p, hp, rfl⟩ := List.mem_map.1 ha
    obtain ⟨q, hq, hqe⟩ := List.mem_map.1 hb
    rcases t.lnew p hp with hc | hc
    · exact hdis q hq (by rw [hqe]; exact hc)
    · have := s.own_lt (List.mem_append_right _ hq)
      simp only at hc
      omega
  · intro p hp
    rcases List.mem_append.1 hp with hp | hp
    · rcases t.lnew p hp with hc | hc
      · exact hI _ hc
      · exact .inr (Nat.le_trans s.size hc)
    · exact s.lnew p (List.mem_append_right _ hp)

/-- A new block is owned. -/
theorem Step.alloc (s : Step B h L w) (o : Obj) : Step B h ((w.heap.size, o) :: L) (w.alloc o) := by
  have hold : ∀ k, k < w.heap.size → (w.alloc o).heap[k]? = w.heap[k]? := fun k hk => by
    show (w.heap.push o)[k]? = _
    rw [Array.getElem?_push, if_neg (by omega)]
  have hnew : (w.alloc o).heap[w.heap.size]? = some o := by
    show (w.heap.push o)[w.heap.size]? = _
    simp
  refine ⟨s.os, s.tape, s.output, by have := s.size; simp; omega, ?_, s.gle, s.gnew, ?_, ?_, ?_, ?_, ?_⟩
  · intro k hk hkI
    rw [hold k (Nat.lt_of_lt_of_le hk s.size), s.block k hk hkI]
  · intro b o' hb
    rw [hold b (s.lt hb), s.sub b o' hb]
  · intro p hp
    rcases List.mem_cons.1 hp with rfl | hp
    · exact hnew
    · rw [hold _ (s.own_lt hp)]; exact s.own p hp
  · intro p hp
    rcases List.mem_cons.1 hp with rfl | hp
    · cases hb : h w.heap.size with
      | none => rfl
      | some o' => have := s.lt hb; omega
    · exact s.apart p hp
  · simp only [ids, List.map_cons]
    refine List.nodup_cons.2 ⟨?_, s.nd⟩
    intro hm
    obtain ⟨p, hp, hpe⟩ := List.mem_map.1 hm
    have := s.own_lt hp
    omega
  · intro p hp
    rcases List.mem_cons.1 hp with rfl | hp
    · exact .inr s.size
    · exact s.lnew p hp

theorem Step.drew (s : Step B h L w) : Step B h L w.drew := ⟨s.os, s.tape, s.output, s.size, s.block, s.gle, s.gnew, s.sub, s.own, s.apart, s.nd, s.lnew⟩

/-- An owned block may be written (whatever the world that comes of it looks like, if it parts there alone). -/
theorem Step.write {L1 L2 : Own} {b : Nat} {o o' : Obj} (s : Step B h (L1 ++ (b, o) :: L2) w) (hos : w'.os = w.os) (htape : w'.tape = w.tape) (hout : w'.output = w.output)
    (hsize : w'.heap.size = w.heap.size) (hb : w'.heap[b]? = some o') (hk : ∀ k, k ≠ b → w'.heap[k]? = w.heap[k]?) : Step B h (L1 ++ (b, o') :: L2) w' := by
  have hmem : (b, o) ∈ L1 ++ (b, o) :: L2 := List.mem_append_right _ (List.mem_cons_self ..)
  have hbh : h b = none := s.apart _ hmem
  have hnd := s.nd
  simp only [ids, List.map_append, List.map_cons] at hnd
  have hne : ∀ p, p ∈ L1 ∨ p ∈ L2 → p.1 ≠ b := by
    intro p hp he
    have h3 := List.nodup_append.1 hnd
    rcases hp with hp | hp
    · exact h3.2.2 _ (List.mem_map_of_mem hp) _ (List.mem_cons_self ..) he
    · exact (List.nodup_cons.1 h3.2.1).1 (by rw [← he]; exact List.mem_map_of_mem hp)
  have hold : ∀ p, p ∈ L1 ∨ p ∈ L2 → p ∈ L1 ++ (b, o) :: L2 := by
    rintro p (hp | hp)
    · exact List.mem_append_left _ hp
    · exact List.mem_append_right _ (List.mem_cons_of_mem _ hp)
  have hsplit : ∀ p, p ∈ L1 ++ (b, o') :: L2 → p = (b, o') ∨ (p ∈ L1 ∨ p ∈ L2) := by
    intro p hp
    rcases List.mem_append.1 hp with hp | hp
    · exact .inr (.inl hp)
    · rcases List.mem_cons.1 hp with hp | hp
      · exact .inl hp
      · exact .inr (.inr hp)
  refine ⟨hos.trans s.os, htape.trans s.tape, hout.trans s.output, by rw [hsize]; exact s.size, ?_, s.gle, s.gnew, ?_, ?_, ?_, ?_, ?_⟩
  · intro k hlt hkI
    rw [hk k ?_, s.block k hlt hkI]
    intro he
    rcases s.lnew _ hmem with hc | hc
    · exact hkI (he ▸ hc)
    · simp only at hc; omega
  · intro b' o'' hb'
    rw [hk b' (fun he => by subst he; simp [hbh] at hb')]
    exact s.sub b' o'' hb'
  · intro p hp
    rcases hsplit p hp with rfl | hp
    · exact hb
    · rw [hk _ (hne p hp)]; exact s.own p (hold p hp)
  · intro p hp
    rcases hsplit p hp with rfl | hp
    · exact hbh
    · exact s.apart p (hold p hp)
  · simp only [ids, List.map_append, List.map_cons]; exact hnd
  · intro p hp
    rcases hsplit p hp with rfl | hp
    · exact s.lnew (b, o) hmem
    · exact s.lnew p (hold p hp)

/-- An owned block is handed over to those that nobody writes. -/
def GH.put (h : GH) (b : Nat) (o : Obj) : GH := fun k => if k = b then some o else h k
theorem GH.put_same (h : GH) (b : Nat) (o : Obj) : h.put b o b = some o := by simp [GH.put]
theorem GH.put_le {h : GH} {b : Nat} {o : Obj} (hb : h b = none) : GH.le h (h.put b o) := by
  intro k o' hk
  unfold GH.put
  split
  · rename_i e; subst e; simp [hb] at hk
  · exact hk
theorem Step.freeze {b : Nat} {o : Obj} (s : Step B h ((b, o) :: L) w) : Step B (h.put b o) L w ∧ GH.le h (h.put b o) := by
  have hbh : h b = none := s.apart _ (List.mem_cons_self ..)
  have hle := GH.put_le (o := o) hbh
  refine ⟨⟨s.os, s.tape, s.output, s.size, s.block, s.gle.trans hle, ?_, ?_, fun p hp => s.own p (List.mem_cons_of_mem _ hp), ?_, (List.nodup_cons.1 s.nd).2, fun p hp => s.lnew p (List.mem_cons_of_mem _ hp)⟩, hle⟩
  · intro k h0 h1
    by_cases hk : k = b
    · subst hk
      exact s.lnew (k, o) (List.mem_cons_self ..)
    · exact s.gnew k h0 (by simpa [GH.put, hk] using h1)
  · intro k o' hk
    unfold GH.put at hk
    split at hk
    · rename_i e; subst e; cases hk; exact s.own (k, o) (List.mem_cons_self ..)
    · exact s.sub k o' hk
  · intro p hp
    have hne : p.1 ≠ b := fun he => (List.nodup_cons.1 s.nd).1 (by show b ∈ ids L; rw [← he]; exact List.mem_map_of_mem (f := (·.1)) hp)
    simp only [GH.put, if_neg hne]
    exact s.apart p (List.mem_cons_of_mem _ hp)
end

/-! ### The frame -/
def eget : Env → Nat → Option Value
  | [], _ => none
  | (k, v) :: E, t => bif Nat.beq k t then some v else eget E t

structure EnvOk (n : Nat) (E : Env) (a : Act) : Prop where
  defers : a.defers = []
  size : a.tmps.size = n
  get : ∀ t v, eget E t = some v → a.tmps[t]? = some v

def oev (E : Env) : Operand → Option Value
  | .tmp t => eget E t
  | .const v => some v
  | .global g => some (.pointer (some ⟨g, 0, none⟩))
  | .func f => some (.func (.func f) #[] #[])

theorem EnvOk.eval {n : Nat} {E : Env} {a : Act} (h : EnvOk n E a) {x : Operand} {v : Value} (hx : oev E x = some v) : a.eval x = v := by
  cases x with
  | tmp t => simp [Act.eval, h.get t v hx]
  | const u => exact Option.some.inj hx
  | global g => exact Option.some.inj hx
  | func f => exact Option.some.inj hx

theorem eget_cons (k : Nat) (v : Value) (E : Env) (t : Nat) : eget ((k, v) :: E) t = if k = t then some v else eget E t := by
  by_cases h : k = t
  · subst h; simp [eget]
  · have : Nat.beq k t = false := by
      cases hb : Nat.beq k t
      · rfl
      · exact absurd (Nat.eq_of_beq_eq_true hb) h
    simp [eget, this, h]

theorem EnvOk.put {n : Nat} {E : Env} {a : Act} (h : EnvOk n E a) {d : Nat} (hd : d < n) (v : Value) : EnvOk n ((d, v) :: E) (a.put (some d) v) := by
  refine ⟨h.defers, by simp [Act.put, h.size], fun t u hu => ?_⟩
  rw [eget_cons] at hu
  simp only [Act.put]
  split at hu
  · rename_i e; subst e; cases hu
    simp [h.size, hd]
  · rename_i hne
    rw [Array.getElem?_setIfInBounds_ne hne]
    exact h.get t u hu

def EnvLe : Env → Env → Prop
  | [], _ => True
  | (t, v) :: E', E => eget E t = some v ∧ EnvLe E' E

theorem EnvLe.get {E E' : Env} (h : EnvLe E' E) : ∀ t v, eget E' t = some v → eget E t = some v := by
  induction E' with
  | nil => intro t v hv; cases hv
  | cons p E' ih =>
    obtain ⟨k, u⟩ := p
    intro t v hv
    rw [eget_cons] at hv
    split at hv
    · rename_i e; subst e; cases hv; exact h.1
    · exact ih h.2 t v hv
theorem EnvOk.weaken {n : Nat} {E E' : Env} {a : Act} (h : EnvOk n E a) (hl : EnvLe E' E) : EnvOk n E' a := ⟨h.defers, h.size, fun t v hv => h.get t v (hl.get t v hv)⟩

/-! ### Judgements -/
def RunQ (n : Nat) (B : Base) (e : Exit) (E : Env) (h : GH) (L : Own) (Q : Post) : Prop := ∀ a w, EnvOk n E a → Step B h L w → Q e a w
def Run (P : Program) (n : Nat) (B : Base) (c : Code) (E : Env) (h : GH) (L : Own) (Q : Post) : Prop := ∀ a w, EnvOk n E a → Step B h L w → c.wp P Q a w
def RunL (P : Program) (n : Nat) (B : Base) (ops : Array Oper) (l : List Oper) (E : Env) (h : GH) (L : Own) (Q : Post) : Prop :=
  ∀ a w, EnvOk n E a → Step B h L w → wpList P ops Q l a w

section
variable {P : Program} {n : Nat} {B : Base} {E E' : Env} {h h' : GH} {L L' : Own} {Q : Post} {x y c : Code} {ops : Array Oper} {l : List Oper}

theorem Run.seq (hx : Run P n B x E h L (Exit.then (y.wp P Q) Q)) : Run P n B (.seq x y) E h L Q := fun a w ha hw => wp_seq (hx a w ha hw)
theorem Run.skip (hq : RunQ n B .normal E h L Q) : Run P n B .skip E h L Q := fun a w ha hw => wp_skip (hq a w ha hw)
theorem Run.label {l : Nat} (hq : RunQ n B .normal E h L Q) : Run P n B (.label l) E h L Q := fun a w ha hw => wp_label (hq a w ha hw)
theorem Run.exit {id : Nat} (hq : RunQ n B (.exit id) E h L Q) : Run P n B (.exit id) E h L Q := fun a w ha hw => wp_exit (hq a w ha hw)
theorem Run.ret (hq : RunQ n B .ret E h L Q) : Run P n B .ret E h L Q := fun a w ha hw => wp_ret (hq a w ha hw)
theorem Run.block {id : Nat} (hc : Run P n B c E h L (Exit.inBlock id Q)) : Run P n B (.block id c) E h L Q := fun a w ha hw => wp_block (hc a w ha hw)
theorem Run.region {id : Nat} (hl : RunL P n B ops ops.toList E h L Q) : Run P n B (.region id ops false) E h L Q := fun a w ha hw => wp_region_list (hl a w ha hw)
theorem Run.region' {id : Nat} (hl : RunL P n B l.toArray l E h L Q) : Run P n B (.region id l.toArray false) E h L Q := fun a w ha hw => wp_region_lit (hl a w ha hw)
theorem Run.cond {o : Operand} {t : Bool} (ho : oev E o = some (.bool t)) (ht : t = true → Run P n B x E h L Q) (hf : t = false → Run P n B y E h L Q) :
    Run P n B (.cond o x y) E h L Q := fun a w ha hw => wp_cond_split (ha.eval ho) (fun e => ht e a w ha hw) (fun e => hf e a w ha hw)
theorem Run.cond_true {o : Operand} (ho : oev E o = some (.bool true)) (ht : Run P n B x E h L Q) :
    Run P n B (.cond o x y) E h L Q := fun a w ha hw => wp_cond_true (ha.eval ho) (ht a w ha hw)
theorem Run.cond_false {o : Operand} (ho : oev E o = some (.bool false)) (ht : Run P n B y E h L Q) :
    Run P n B (.cond o x y) E h L Q := fun a w ha hw => wp_cond_false (ha.eval ho) (ht a w ha hw)
theorem RunL.nil (hq : RunQ n B .normal E h L Q) : RunL P n B ops [] E h L Q := fun a w ha hw => wpList_nil (hq a w ha hw)

theorem RunQ.then_normal (hr : Run P n B y E h L Q) : RunQ n B .normal E h L (Exit.then (y.wp P Q) Q) := hr
theorem RunQ.then_ret {K : Act → World → Prop} (hr : RunQ n B .ret E h L Q) : RunQ n B .ret E h L (Exit.then K Q) := hr
theorem RunQ.then_exit {K : Act → World → Prop} {id : Nat} (hr : RunQ n B (.exit id) E h L Q) : RunQ n B (.exit id) E h L (Exit.then K Q) := hr
theorem RunQ.block_normal {id : Nat} (hr : RunQ n B .normal E h L Q) : RunQ n B .normal E h L (Exit.inBlock id Q) := hr
theorem RunQ.block_ret {id : Nat} (hr : RunQ n B .ret E h L Q) : RunQ n B .ret E h L (Exit.inBlock id Q) := hr
theorem RunQ.block_exit {id : Nat} (hr : RunQ n B .normal E h L Q) : RunQ n B (.exit id) E h L (Exit.inBlock id Q) := fun a w ha hw => by simp only [Exit.inBlock, if_true]; exact hr a w ha hw
theorem RunQ.block_exit_other {id id' : Nat} (hne : Nat.beq id' id = false) (hr : RunQ n B (.exit id') E h L Q) : RunQ n B (.exit id') E h L (Exit.inBlock id Q) :=
  fun a w ha hw => by
    have : id' ≠ id := fun e => by subst e; simp at hne
    simp only [Exit.inBlock, if_neg this]; exact hr a w ha hw

/-- Weakening of the state. -/
theorem Run.weaken (hE : EnvLe E' E) (hL : List.Sublist L' L) (hr : Run P n B c E' h L' Q) : Run P n B c E h L Q := fun a w ha hw => hr a w (ha.weaken hE) (hw.sublist hL)
theorem RunQ.weaken {e : Exit} (hE : EnvLe E' E) (hL : List.Sublist L' L) (hr : RunQ n B e E' h L' Q) : RunQ n B e E h L Q := fun a w ha hw => hr a w (ha.weaken hE) (hw.sublist hL)
theorem Run.drop {p : Nat × Obj} (hr : Run P n B c E h L Q) : Run P n B c E h (p :: L) Q := fun a w ha hw => hr a w ha (hw.sublist (List.sublist_cons_self ..))
theorem Run.perm (hL : List.Perm L L') (hr : Run P n B c E h L' Q) : Run P n B c E h L Q := fun a w ha hw => hr a w ha (hw.perm hL)
theorem RunQ.perm {e : Exit} (hL : List.Perm L L') (hr : RunQ n B e E h L' Q) : RunQ n B e E h L Q := fun a w ha hw => hr a w ha (hw.perm hL)
theorem RunL.perm (hL : List.Perm L L') (hr : RunL P n B ops l E h L' Q) : RunL P n B ops l E h L Q := fun a w ha hw => hr a w ha (hw.perm hL)
theorem RunQ.freeze {e : Exit} {b : Nat} {o : Obj} (hr : GH.le h (h.put b o) → RunQ n B e E (h.put b o) L Q) : RunQ n B e E h ((b, o) :: L) Q := fun a w ha hw => hr hw.freeze.2 a w ha hw.freeze.1
theorem Run.freeze {b : Nat} {o : Obj} (hr : GH.le h (h.put b o) → Run P n B c E (h.put b o) L Q) : Run P n B c E h ((b, o) :: L) Q := fun a w ha hw => hr hw.freeze.2 a w ha hw.freeze.1
theorem RunL.freeze {b : Nat} {o : Obj} (hr : GH.le h (h.put b o) → RunL P n B ops l E (h.put b o) L Q) : RunL P n B ops l E h ((b, o) :: L) Q := fun a w ha hw => hr hw.freeze.2 a w ha hw.freeze.1

/-- A cut: what holds where ways meet again. -/
theorem Run.seq_cut (J : Env → GH → Own → Prop) (hx : Run P n B x E h L (Exit.then (fun a w => ∃ E h L, J E h L ∧ EnvOk n E a ∧ Step B h L w) Q))
    (hy : ∀ E h L, J E h L → Run P n B y E h L Q) : Run P n B (.seq x y) E h L Q := fun a w ha hw =>
  wp_seq (wp_mono (hx a w ha hw) fun e _ _ hq => by
    cases e with
    | normal => obtain ⟨E, h, L, hj, h1, h2⟩ := hq; exact hy E h L hj _ _ h1 h2
    | _ => exact hq)
theorem RunQ.cut {J : Env → GH → Own → Prop} (hj : J E' h L') (hE : EnvLe E' E) (hL : List.Sublist L' L) :
    RunQ n B .normal E h L (Exit.then (fun a w => ∃ E h L, J E h L ∧ EnvOk n E a ∧ Step B h L w) Q) := fun a w ha hw => ⟨E', h, L', hj, ha.weaken hE, hw.sublist hL⟩

/-- A loop: an invariant that bears a number that falls. -/
theorem wp_loop_ix {c : Code} {Q : Post} (J : Nat → Act → World → Prop)
    (round : ∀ m a w, J m a w → c.wp P (Exit.then (fun a' w' => ∃ m', m' < m ∧ J m' a' w') Q) a w) {m : Nat} {a : Act} {w : World} (h₀ : J m a w) : (Code.loop c).wp P Q a w := by
  intro b k cs
  have key : ∀ m a w, J m a w →
      ∃ e a' w', Q e a' w' ∧ Arrives P (lone (b.at a (.code c :: .inLoop c :: k)) cs w) b k cs e a' w' := by
    intro m
    induction m using Nat.strongRecOn with
    | _ m ih =>
      intro a w hI
      obtain ⟨e, a₁, w₁, hq, harr⟩ := round m a w hI b (.inLoop c :: k) cs
      cases e with
      | normal =>
        obtain ⟨m', hlt, hI₁⟩ := hq
        obtain ⟨e₂, a₂, w₂, hq₂, harr₂⟩ := ih m' hlt a₁ w₁ hI₁
        exact ⟨e₂, a₂, w₂, hq₂, .of_steps (Steps.trans harr (.one step_inLoop)) harr₂⟩
      | exit id => exact ⟨_, a₁, w₁, hq, .pass (x := .inLoop c) rfl (fun _ _ => .inl (by simp)) harr⟩
      | goto l => exact ⟨_, a₁, w₁, hq, .pass (x := .inLoop c) rfl (fun _ _ => .inl (by simp)) harr⟩
      | ret => exact ⟨_, a₁, w₁, hq, .pass (x := .inLoop c) rfl (fun _ _ => .inl (by simp)) harr⟩
      | panic ch => exact ⟨_, a₁, w₁, hq, .pass (x := .inLoop c) rfl (fun _ _ => .inl (by simp)) harr⟩
      | outgrown => exact ⟨_, a₁, w₁, hq, .pass (x := .inLoop c) rfl (fun _ _ => .inl (by simp)) harr⟩
  obtain ⟨e, a', w', hq, harr⟩ := key m a w h₀
  exact ⟨e, a', w', hq, .of_steps (.one step_loop) harr⟩

def LoopK (n : Nat) (B : Base) (J : Nat → Env → GH → Own → Prop) (m : Nat) (a : Act) (w : World) : Prop :=
  ∃ m', m' < m ∧ ∃ E h L, J m' E h L ∧ EnvOk n E a ∧ Step B h L w
theorem Run.loop (J : Nat → Env → GH → Own → Prop) (m : Nat) (hj : J m E' h L') (hE : EnvLe E' E) (hL : List.Sublist L' L)
    (round : ∀ m E h L, J m E h L → Run P n B c E h L (Exit.then (LoopK n B J m) Q)) : Run P n B (.loop c) E h L Q := fun _ _ ha hw =>
  wp_loop_ix (fun m a w => ∃ E h L, J m E h L ∧ EnvOk n E a ∧ Step B h L w)
    (fun m _ _ ⟨E, h, L, hj, h1, h2⟩ => wp_mono (round m E h L hj _ _ h1 h2) fun e _ _ hq => by
      cases e with
      | normal => exact hq
      | _ => exact hq) ⟨E', h, L', hj, ha.weaken hE, hw.sublist hL⟩
theorem RunQ.again {J : Nat → Env → GH → Own → Prop} {m : Nat} (m' : Nat) (hm : m' < m) (hj : J m' E' h L') (hE : EnvLe E' E) (hL : List.Sublist L' L) :
    RunQ n B .normal E h L (Exit.then (LoopK n B J m) Q) := fun _ _ ha hw => ⟨m', hm, E', h, L', hj, ha.weaken hE, hw.sublist hL⟩
end
end Go.Proofs.YtcckofgleghbgaaDoor.Sx
