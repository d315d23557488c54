/- What the arguments' readings give: lists of actions, fields, bytes, that nobody writes; the law's answer read back. -/
import Derived.Test.YtcckofgleghbgaaDoorLaw14
import Derived.Test.YtcckofgleghbgaaDoorCards
import Derived.Test.YtcckofgleghbgaaDoorTie
import Derived.ProofKit
import Derived.OpenShut
import Derived.Deep.DeepHandedRow
import Derived.Deep.Slices
import Derived.Lib.LaidTab
namespace Go.Proofs.YtcckofgleghbgaaDoor
open Go Sx Go.ChangeShapes Go.WideShapes Go.ChangeAt Go.RowKit Go.Deep
set_option maxRecDepth 100000
/-- The start's memory, as that which nobody writes. -/
def ghW (W : World) : GH := fun b => W.heap[b]?
theorem ghW_cell {W : World} {a : Addr} {v : Value} (h : W.cell? a = some v) : a.spot = none ∧ (ghW W).cell a.block a.off = some v := by
  unfold World.cell? at h
  unfold GH.cell ghW
  split at h
  · rename_i c t fz hb
    rw [hb]
    split at h
    · cases h
    · rename_i hs
      exact ⟨by simpa using hs, h⟩
  · cases h
theorem ghW_pre (W : World) : Pre (ghW W) [] W :=
  ⟨rfl, rfl, rfl, Nat.le_refl _, fun _ _ _ => rfl, GH.le.refl _, fun _ a b => absurd a b, fun _ _ h => h, fun _ h => (by cases h), fun _ h => (by cases h), List.nodup_nil, fun _ h => (by cases h)⟩
theorem Ctr.calls {P : Program} {f : FuncId} {args : Array Value} {W : World} {R : Value → Prop} (h : Ctr P f args (ghW W) [] fun r _ _ => R r) : Calls P f args W fun e W' => ∃ v, e = .returned v ∧ R v ∧ Below W.heap.size W W' :=
  (h W (ghW_pre W)).mono fun _ _ ⟨v, _, _, he, hr, st⟩ => ⟨v, he, hr, st.os, st.tape, st.output, st.size, fun k hk => st.block k hk (by simp [ids])⟩
theorem exists_list {α : Type} {Q : Nat → α → Prop} : ∀ (n : Nat), (∀ i, i < n → ∃ x, Q i x) → ∃ l : List α, l.length = n ∧ ∀ (i : Nat) x, l[i]? = some x → Q i x
  | 0, _ => ⟨[], rfl, by simp⟩
  | n + 1, h => by
    obtain ⟨l, hl, hq⟩ := exists_list n fun i hi => h i (by omega)
    obtain ⟨x, hx⟩ := h n (by omega)
    refine ⟨l ++ [x], by simp [hl], fun i y hy => ?_⟩
    rcases Nat.lt_or_ge i n with hi | hi
    · rw [List.getElem?_append_left (by omega)] at hy; exact hq i y hy
    · rw [List.getElem?_append_right (by omega)] at hy
      have h0 : i - l.length = 0 := by
        have := (List.getElem?_eq_some_iff.1 hy).1
        simpa using this
      rw [h0] at hy
      have hi' : i = n := by omega
      subst hi'
      simp at hy; subst hy; exact hx
theorem flatten_at {size : Nat} (hz : 0 < size) : ∀ {css : List (List Value)} {q : Nat} {v : Value}, (∀ cs ∈ css, cs.length = size) → css.flatten[q]? = some v → ∃ cs, css[q / size]? = some cs ∧ cs[q % size]? = some v
  | [], q, v, _, h => by simp at h
  | c :: css, q, v, hc, h => by
    have hl := hc c (List.mem_cons_self ..)
    rw [List.flatten_cons] at h
    rcases Nat.lt_or_ge q size with hq | hq
    · rw [List.getElem?_append_left (by omega)] at h
      exact ⟨c, by rw [Nat.div_eq_of_lt hq]; rfl, by rw [Nat.mod_eq_of_lt hq]; exact h⟩
    · rw [List.getElem?_append_right (by omega), hl] at h
      obtain ⟨cs, h1, h2⟩ := flatten_at hz (fun cs hcs => hc cs (List.mem_cons_of_mem _ hcs)) h
      refine ⟨cs, ?_, ?_⟩
      · rw [show q / size = (q - size) / size + 1 by rw [Nat.div_eq_sub_div hz hq]]; simpa using h1
      · rw [Nat.mod_eq_sub_mod hq]; exact h2
theorem bulk_one {H : Type} (d : DataW H) : 1 ≤ Rows.uptoBulk d := by
  cases d with
  | lit l => cases l <;> simp [Rows.uptoBulk]
  | _ => simp [Rows.uptoBulk]
theorem bulk_part {H : Type} {d : DataW H} {l : List (DataW H)} (h : d ∈ l) : Rows.uptoBulk d ≤ Rows.uptoBulkAll l := by
  induction l with
  | nil => cases h
  | cons x r ih =>
    simp only [Rows.uptoBulkAll]
    rcases List.mem_cons.1 h with e | e
    · subst e; omega
    · have := ih e; omega
theorem bulk_length {H : Type} (l : List (DataW H)) : l.length ≤ Rows.uptoBulkAll l := by
  induction l with
  | nil => simp [Rows.uptoBulkAll]
  | cons x r ih => have := bulk_one x; simp only [Rows.uptoBulkAll, List.length_cons]; omega
section
variable {H : Type} {enc : TypeId × Value → H} {P : Program} {W : World}
theorem rep_of_trod {α : Type} {R : GH → α → List Value → Prop} {size : Nat} {t e : TypeId} (ht : P.underlying t = some (.slice e)) (hC : P.cellsOf e = size) (hz : 0 < size)
    (hel : ∀ n cs y, DataW.trod enc P W 0 (fun _ => true) true n e cs = some y → Rows.uptoBulk y.1 ≤ 1048576 → ∃ a, cs.length = size ∧ R (ghW W) a cs) {fuel : Nat} {cs : List Value} {x : DataW H × List MemPlace} (h : DataW.trod enc P W 0 (fun _ => true) true fuel t cs = some x) (hb : Rows.uptoBulk x.1 ≤ 1048576) :
    ∃ (s : Sl) (l : List α), cs = [s.v] ∧ IsRep size R (ghW W) s l ∧ l.length ≤ 1048576 := by
  rcases open_slice ht h with ⟨rfl, rfl⟩ | ⟨a, len, cap, m, n, D, Pl, rfl, _, hlc, hcm, hm, hx, hi⟩
  · exact ⟨Sl.none, [], rfl, IsRep.nil, by simp⟩
  · simp only [if_true] at hm
    subst hm
    rw [hC] at hi
    have hbx : Rows.uptoBulkAll ((List.range len).map D) + Rows.uptoBulkAll ((List.range (m - len)).map fun j => D (len + j)) + 1 ≤ 1048576 := by
      rw [hx] at hb; simpa [Rows.uptoBulk] using hb
    have hlen : len ≤ 1048576 := by have := bulk_length ((List.range len).map D); simp only [List.length_map, List.length_range] at this; omega
    obtain ⟨l, hl, hq⟩ := exists_list (α := α × List Value) (Q := fun i q => W.cells? 0 (a.add (i * size)) size = some q.2 ∧ q.2.length = size ∧ R (ghW W) q.1 q.2) len fun i hil => by
      obtain ⟨cs', h1, h2⟩ := hi i (by omega)
      have hbi : Rows.uptoBulk (D i) ≤ 1048576 := by
        have := bulk_part (d := D i) (l := (List.range len).map D) (List.mem_map.2 ⟨i, by simpa using hil, rfl⟩)
        omega
      obtain ⟨x, h3, h4⟩ := hel n cs' _ h2 hbi
      exact ⟨(x, cs'), h1, h3, h4⟩
    have hspot : 0 < m → a.spot = none := fun hm0 => by
      obtain ⟨cs', h1, _⟩ := hi 0 hm0
      obtain ⟨_, h2, h3⟩ := World.cells?_some h1
      have h4 := h3 0 hz
      rw [List.getElem?_eq_getElem (by omega)] at h4
      have := (ghW_cell h4).1
      simpa [Addr.add] using this
    refine ⟨⟨some a, len, m⟩, l.map (·.1), rfl, ⟨l.map (·.2), ⟨?_, hlc, hcm, ?_, fun hn => (by cases hn), fun a' ha hc => (by cases ha; exact hspot hc)⟩, by simp, ?_, ?_⟩, by simp [hl]; exact hlen⟩
    · rw [flatten_length (size := size)]
      · simp [hl]
      · intro cs hcs
        obtain ⟨q, hq1, rfl⟩ := List.mem_map.1 hcs
        obtain ⟨i, hi1, hi2⟩ := List.getElem_of_mem hq1
        exact (hq i q (by simp [hi1, hi2])).2.1
    · rcases Nat.eq_zero_or_pos len with h0 | h0
      · exact .inl h0
      · right
        have hs := hspot (by omega)
        refine ⟨a.block, a.off, by cases a; simp at hs; simp [hs], fun q v hv => ?_⟩
        have hall : ∀ cs ∈ l.map (·.2), cs.length = size := fun cs hcs => by
          obtain ⟨q, hq1, rfl⟩ := List.mem_map.1 hcs
          obtain ⟨i, hi1, hi2⟩ := List.getElem_of_mem hq1
          exact (hq i q (by simp [hi1, hi2])).2.1
        obtain ⟨cs, h1, h2⟩ := flatten_at hz hall hv
        rw [List.getElem?_map, Option.map_eq_some_iff] at h1
        obtain ⟨p, hp1, rfl⟩ := h1
        obtain ⟨g1, g2, _⟩ := hq _ p hp1
        obtain ⟨_, g3, g4⟩ := World.cells?_some g1
        have h5 := g4 (q % size) (Nat.mod_lt _ hz)
        rw [h2] at h5
        have h6 := (ghW_cell h5).2
        have h7 : ((a.add (q / size * size)).add (q % size)).block = a.block ∧ ((a.add (q / size * size)).add (q % size)).off = a.off + q := by
          have hdm : q / size * size + q % size = q := Nat.div_add_mod' q size
          unfold Addr.add
          split <;> split <;> simp_all <;> omega
        rw [h7.1, h7.2] at h6
        exact h6
    · intro cs hcs
      obtain ⟨q, hq1, rfl⟩ := List.mem_map.1 hcs
      obtain ⟨i, hi1, hi2⟩ := List.getElem_of_mem hq1
      exact (hq i q (by simp [hi1, hi2])).2.1
    · intro i b cs hb1 hc1
      rw [List.getElem?_map, Option.map_eq_some_iff] at hb1 hc1
      obtain ⟨p, hp1, rfl⟩ := hb1
      obtain ⟨p', hp2, rfl⟩ := hc1
      rw [hp1] at hp2; cases hp2
      exact (hq i p hp1).2.2
theorem struct_parts {t : TypeId} {tys : List (TypeId × Nat)} (hS : P.underlying t = some (.struct (P.fieldsOf t))) (hF : (P.fieldsOf t).toList.map (fun f => (f.type, f.offset)) = tys) {fuel : Nat} {cs : List Value} {x : DataW H × List MemPlace} (h : DataW.trod enc P W 0 (fun _ => true) true fuel t cs = some x) :
    cs.length = P.cellsOf t ∧ ∃ (xs : List (DataW H × List MemPlace)) (n : Nat), x.1 = .agg (xs.map (·.1)) ∧ xs.length = tys.length ∧ ∀ (i : Nat) (ty : TypeId) (off : Nat), tys[i]? = some (ty, off) → DataW.trod enc P W 0 (fun _ => true) true n ty ((cs.drop off).take (P.cellsOf ty)) = xs[i]? := by
  obtain ⟨xs, n, _, hx, hl, hxs, hf⟩ := DataW.trod_struct hS h
  refine ⟨hl, xs, n, by rw [hx], by rw [hxs, ← hF]; simp, fun i ty off hi => ?_⟩
  rw [← hF, List.getElem?_map, Option.map_eq_some_iff] at hi
  obtain ⟨f, hf1, hf2⟩ := hi
  cases hf2
  exact hf i f (by simpa using hf1)
theorem u8_of_trod {t : TypeId} (ht : P.underlying t = some (.int .u8)) {fuel : Nat} {cs : List Value} {x : DataW H × List MemPlace} (h : DataW.trod enc P W 0 (fun _ => true) true fuel t cs = some x) : ∃ c : UInt8, cs = [u8v c] := by
  obtain ⟨n, rfl, _, hw⟩ := DataW.trod_int ht h
  have hw' : 0 ≤ n ∧ n ≤ 255 := by simpa [Lit.wf, IntKind.min, IntKind.max, IntKind.signed, IntKind.bits] using hw
  refine ⟨UInt8.ofNat n.toNat, ?_⟩
  have : ((UInt8.ofNat n.toNat).toNat : Int) = n := by simp; omega
  simp only [u8v, this]
theorem u64_of_trod {t : TypeId} (ht : P.underlying t = some (.int .u64)) {fuel : Nat} {cs : List Value} {x : DataW H × List MemPlace} (h : DataW.trod enc P W 0 (fun _ => true) true fuel t cs = some x) : ∃ c : UInt64, cs = [u64v c] := by
  obtain ⟨n, rfl, _, hw⟩ := DataW.trod_int ht h
  have hw' : 0 ≤ n ∧ n ≤ 18446744073709551615 := by simpa [Lit.wf, IntKind.min, IntKind.max, IntKind.signed, IntKind.bits] using hw
  refine ⟨UInt64.ofNat n.toNat, ?_⟩
  have : ((UInt64.ofNat n.toNat).toNat : Int) = n := by simp; omega
  simp only [u64v, this]
theorem i64_of_trod {t : TypeId} (ht : P.underlying t = some (.int .i64)) {fuel : Nat} {cs : List Value} {x : DataW H × List MemPlace} (h : DataW.trod enc P W 0 (fun _ => true) true fuel t cs = some x) : ∃ c : Int, cs = [i64v c] := by
  obtain ⟨n, rfl, _, _⟩ := DataW.trod_int ht h
  exact ⟨n, rfl⟩
theorem flatten_ones : ∀ l : List UInt8, (l.map fun c => [u8v c]).flatten = l.map u8v
  | [] => rfl
  | c :: l => by rw [List.map_cons, List.flatten_cons, flatten_ones l]; rfl
theorem bytes_of_rep {s : Sl} {l : List UInt8} {h : GH} (hs : IsRep 1 (fun _ (c : UInt8) cs => cs = [u8v c]) h s l) (hl : l.length ≤ 1048576) : IsBytes h s l := by
  obtain ⟨css, h1, h2, h3, h4⟩ := hs
  have : css = l.map fun c => [u8v c] := by
    apply List.ext_getElem?
    intro i
    rw [List.getElem?_map]
    rcases Nat.lt_or_ge i l.length with hi | hi
    · have := h4 i l[i] (css[i]'(by omega)) (by simp [hi]) (by simp [show i < css.length by omega])
      rw [List.getElem?_eq_getElem (by omega), List.getElem?_eq_getElem hi, this]; rfl
    · rw [List.getElem?_eq_none (by omega), List.getElem?_eq_none hi]; rfl
  subst this
  rw [flatten_ones] at h1
  exact ⟨h1, by omega⟩
end
section
variable {H : Type} {enc : TypeId × Value → H} {W : World}
theorem bytes_of_trod {fuel : Nat} {cs : List Value} {x : DataW H × List MemPlace} (h : DataW.trod enc Tryd.prog W 0 (fun _ => true) true fuel 37 cs = some x) (hb : Rows.uptoBulk x.1 ≤ 1048576) : ∃ (s : Sl) (l : List UInt8), cs = [s.v] ∧ IsBytes (ghW W) s l := by
  obtain ⟨s, l, h1, h2, h3⟩ := rep_of_trod (R := fun _ (c : UInt8) cs => cs = [u8v c]) (size := 1) (e := 5) (by kernel_rfl) (by kernel_rfl) (by decide) (fun n cs y hy _ => by
    obtain ⟨c, rfl⟩ := u8_of_trod (by kernel_rfl) hy
    exact ⟨c, rfl, rfl⟩) h hb
  exact ⟨s, l, h1, bytes_of_rep h2 h3⟩
theorem oxm_of_trod {fuel : Nat} {cs : List Value} {x : DataW H × List MemPlace} (h : DataW.trod enc Tryd.prog W 0 (fun _ => true) true fuel 39 cs = some x) (hb : Rows.uptoBulk x.1 ≤ 1048576) : ∃ o : OxmM, cs.length = 6 ∧ OxmR (ghW W) o cs := by
  obtain ⟨hl, xs, n, hx, hxl, hf⟩ := struct_parts (tys := [(3, 0), (3, 1), (4, 2), (36, 3), (37, 4), (37, 5)]) (by kernel_rfl) (by kernel_rfl) h
  have hl6 : cs.length = 6 := hl.trans (by kernel_rfl)
  match cs, hl6, xs, hxl with
  | [c0, c1, c2, c3, c4, c5], _, [y0, y1, y2, y3, y4, y5], _ =>
    have c1i : Tryd.prog.cellsOf 3 = 1 := by kernel_rfl
    have c1b : Tryd.prog.cellsOf 4 = 1 := by kernel_rfl
    have c1u : Tryd.prog.cellsOf 36 = 1 := by kernel_rfl
    have c1s : Tryd.prog.cellsOf 37 = 1 := by kernel_rfl
    rw [hx] at hb
    simp only [List.map_cons, List.map_nil, Rows.uptoBulk, Rows.uptoBulkAll] at hb
    have f0 := hf 0 _ _ rfl
    have f1 := hf 1 _ _ rfl
    have f2 := hf 2 _ _ rfl
    have f3 := hf 3 _ _ rfl
    have f4 := hf 4 _ _ rfl
    have f5 := hf 5 _ _ rfl
    rw [c1i] at f0 f1; rw [c1b] at f2; rw [c1u] at f3; rw [c1s] at f4 f5
    obtain ⟨a0, h0⟩ := i64_of_trod (by kernel_rfl) f0
    obtain ⟨a1, h1⟩ := i64_of_trod (by kernel_rfl) f1
    obtain ⟨a2, h2, _⟩ := DataW.trod_bool (by kernel_rfl) f2
    obtain ⟨a3, h3⟩ := u64_of_trod (by kernel_rfl) f3
    obtain ⟨sv, v, h4, hv⟩ := bytes_of_trod f4 (by omega)
    obtain ⟨sm, m, h5, hm⟩ := bytes_of_trod f5 (by omega)
    simp only [List.drop_zero, List.drop_succ_cons, List.take_succ_cons, List.take_zero, List.cons.injEq, and_true] at h0 h1 h2 h3 h4 h5
    subst h0 h1 h2 h3 h4 h5
    exact ⟨⟨a0, a1, a2, a3, v, m⟩, rfl, sv, sm, rfl, hv, hm⟩
theorem act_of_trod {fuel : Nat} {cs : List Value} {x : DataW H × List MemPlace} (h : DataW.trod enc Tryd.prog W 0 (fun _ => true) true fuel 41 cs = some x) (hb : Rows.uptoBulk x.1 ≤ 1048576) : ∃ o : ActM, cs.length = 10 ∧ ActR (ghW W) o cs := by
  obtain ⟨hl, xs, n, hx, hxl, hf⟩ := struct_parts (tys := [(3, 0), (36, 1), (36, 2), (39, 3), (37, 9)]) (by kernel_rfl) (by kernel_rfl) h
  have hl10 : cs.length = 10 := hl.trans (by kernel_rfl)
  match cs, hl10, xs, hxl with
  | [c0, c1, c2, c3, c4, c5, c6, c7, c8, c9], _, [y0, y1, y2, y3, y4], _ =>
    have c1i : Tryd.prog.cellsOf 3 = 1 := by kernel_rfl
    have c1u : Tryd.prog.cellsOf 36 = 1 := by kernel_rfl
    have c6o : Tryd.prog.cellsOf 39 = 6 := by kernel_rfl
    have c1s : Tryd.prog.cellsOf 37 = 1 := by kernel_rfl
    rw [hx] at hb
    simp only [List.map_cons, List.map_nil, Rows.uptoBulk, Rows.uptoBulkAll] at hb
    have f0 := hf 0 _ _ rfl
    have f1 := hf 1 _ _ rfl
    have f2 := hf 2 _ _ rfl
    have f3 := hf 3 _ _ rfl
    have f4 := hf 4 _ _ rfl
    rw [c1i] at f0; rw [c1u] at f1 f2; rw [c6o] at f3; rw [c1s] at f4
    obtain ⟨a0, h0⟩ := i64_of_trod (by kernel_rfl) f0
    obtain ⟨a1, h1⟩ := u64_of_trod (by kernel_rfl) f1
    obtain ⟨a2, h2⟩ := u64_of_trod (by kernel_rfl) f2
    obtain ⟨o, _, sv, sm, h3, ho⟩ := oxm_of_trod f3 (by omega)
    obtain ⟨sd, d, h4, hd⟩ := bytes_of_trod f4 (by omega)
    simp only [List.drop_zero, List.drop_succ_cons, List.take_succ_cons, List.take_zero, List.cons.injEq, and_true] at h0 h1 h2 h3 h4
    obtain ⟨g0, g1, g2, g3, g4, g5⟩ := h3
    subst h0 h1 h2 h4 g0 g1 g2 g3 g4 g5
    exact ⟨⟨a0, a1, a2, o, d⟩, rfl, sv, sm, sd, rfl, ho, hd⟩
theorem acts_of_trod {fuel : Nat} {cs : List Value} {x : DataW H × List MemPlace} (h : DataW.trod enc Tryd.prog W 0 (fun _ => true) true fuel 30 cs = some x) (hb : Rows.uptoBulk x.1 ≤ 1048576) : ∃ (s : Sl) (l : List ActM), cs = [s.v] ∧ IsActs (ghW W) s l ∧ l.length ≤ 1048576 := by
  obtain ⟨s, l, h1, h2, h3⟩ := rep_of_trod (R := ActR) (size := 10) (e := 41) (by kernel_rfl) (by kernel_rfl) (by decide) (fun n cs y hy hb => by
    obtain ⟨a, g1, g2⟩ := act_of_trod hy hb
    exact ⟨a, g1, g2⟩) h hb
  exact ⟨s, l, h1, ⟨h2, by omega⟩, h3⟩
theorem oxms_of_trod {fuel : Nat} {cs : List Value} {x : DataW H × List MemPlace} (h : DataW.trod enc Tryd.prog W 0 (fun _ => true) true fuel 22 cs = some x) (hb : Rows.uptoBulk x.1 ≤ 1048576) : ∃ (s : Sl) (l : List OxmM), cs = [s.v] ∧ IsOxms (ghW W) s l ∧ l.length ≤ 1048576 := by
  obtain ⟨s, l, h1, h2, h3⟩ := rep_of_trod (R := OxmR) (size := 6) (e := 39) (by kernel_rfl) (by kernel_rfl) (by decide) (fun n cs y hy hb => by
    obtain ⟨a, g1, g2⟩ := oxm_of_trod hy hb
    exact ⟨a, g1, g2⟩) h hb
  exact ⟨s, l, h1, ⟨h2, by omega⟩, h3⟩
/-- An argument's value, of a type that is one cell, or of a struct. -/
theorem cells_one {v : Value} {u : Value} {t e : TypeId} (ht : Tryd.prog.underlying t = some (.slice e)) (hv : Value.okWide Tryd.prog W .any 0 t v) (h : v.cells.toList = [u]) : v = u := by
  unfold Value.okWide at hv
  rw [ht] at hv
  simp only [Cell.okWide, ht, Cell.ok] at hv
  cases v <;> simp_all [Value.cells]
theorem arg_acts {v : Value} {d : DataW H} {p : List MemPlace} {base : Nat} (hv : Value.okWide Tryd.prog W .any base 30 v) (h : DataW.Trod enc Tryd.prog W 0 (fun _ => true) true 30 v d p) (hb : Rows.uptoBulk d ≤ 1048576) : ∃ (s : Sl) (l : List ActM), v = s.v ∧ IsActs (ghW W) s l ∧ l.length ≤ 1048576 := by
  obtain ⟨fuel, hf⟩ := h
  obtain ⟨s, l, h1, h2, h3⟩ := acts_of_trod hf hb
  refine ⟨s, l, ?_, h2, h3⟩
  have hu : Tryd.prog.underlying 30 = some (.slice 41) := by kernel_rfl
  unfold Value.okWide at hv
  rw [hu] at hv
  simp only [Cell.okWide, hu, Cell.ok] at hv
  cases v <;> simp_all [Value.cells]
theorem arg_act {v : Value} {d : DataW H} {p : List MemPlace} {base : Nat} (hv : Value.okWide Tryd.prog W .any base 41 v) (h : DataW.Trod enc Tryd.prog W 0 (fun _ => true) true 41 v d p) (hb : Rows.uptoBulk d ≤ 1048576) : ∃ (x : ActM) (sv sm sd : Sl), v = actV x sv sm sd ∧ IsAct (ghW W) x sv sm sd := by
  obtain ⟨fuel, hf⟩ := h
  have hu : Tryd.prog.underlying 41 = some (.struct (Tryd.prog.fieldsOf 41)) := by kernel_rfl
  obtain ⟨x, _, sv, sm, sd, h1, h2⟩ := act_of_trod hf hb
  unfold Value.okWide at hv
  rw [hu] at hv
  obtain ⟨cs, rfl, _⟩ := hv
  refine ⟨x, sv, sm, sd, ?_, h2⟩
  simp only [Value.cells] at h1
  have : cs = (actC x sv sm sd).toArray := by apply Array.ext'; simpa using h1
  rw [this]
end
/-- All arguments read behind the call as they did. -/
theorem all_stay {H : Type} {enc : TypeId × Value → H} {P : Program} {W W' : World} {sp : Nat → Bool} (hl : laidOutB P = true) (hb : Below W.heap.size W W') : ∀ {ts : List TypeId} {vs : List Value} {ds : List (DataW H)} {ps : List MemPlace}, (∀ t ∈ ts, P.readableRec t = true ∧ t < P.types.size) →
    DataW.TrodAll enc P W 0 (fun _ => true) true ts vs ds ps → (∀ p ∈ ps, p.block < W.heap.size) → (∀ p ∈ ps, sp p.block = true) → DataW.TrodAll enc P W' 0 sp true ts vs ds ps
  | [], [], [], _, _, h, _, _ => h
  | t :: ts, v :: vs, d :: ds, ps, ht, ⟨p, q, h1, h2, e⟩, hlt, hs => by
    subst e
    refine ⟨p, q, ?_, all_stay hl hb (fun t' ht' => ht t' (List.mem_cons_of_mem _ ht')) h2 (fun x hx => hlt x (List.mem_append_right _ hx)) (fun x hx => hs x (List.mem_append_right _ hx)), rfl⟩
    have := ht t (List.mem_cons_self ..)
    exact WideElems.Trod_stays hl this.1 this.2 h1 (fun x hx => hb.same (hlt x (List.mem_append_left _ hx))) (fun x hx => hs x (List.mem_append_left _ hx))
theorem keptBelow {W W' : World} (hb : Below W.heap.size W W') (may : MemPlace → Prop) : W.keptBut W' may := by
  refine ⟨hb.os, hb.output, fun i hi => ?_⟩
  rw [hb.block i hi]
  cases W.heap[i]? with
  | none => trivial
  | some o => cases o <;> simp
/-- The law's answer, read back. -/
theorem law_post {H : Type} {enc : TypeId × Value → H} {P : Program} {f : Func} {s : ChangeSpec} {apart fresh handsOn again : Bool} {W W' : World} {args : Array Value} {ds : List (DataW H)} {before : List MemPlace} {tb : TypeId} (hl : laidOutB P = true) (hres : f.resultTypes = #[tb]) (htb : P.underlying tb = some .bool)
    (hty : ∀ t ∈ f.params.toList, P.readableRec t = true ∧ t < P.types.size) (hvars : s.vars = []) (hspec : s.fn H (ds ++ []) = { results := [.lit (.bool true)], args := ds })
    (hW : DataW.Whole enc P f.params.toList s.vars apart W args.toList ds [] before) (hb : Below W.heap.size W W') : s.post enc P f apart fresh handsOn again W args (.bool true) W' := by
  have hlt := hW.lt
  have hW2 := hW
  obtain ⟨p, q, hA, hV, rfl, hfz, hnd⟩ := hW
  rw [hvars] at hV
  obtain ⟨_, rfl⟩ := trodVars_none hV
  have hlt' : ∀ x ∈ p, x.block < W.heap.size := fun x hx => by simpa using hlt x (List.mem_append_left _ hx)
  have hres1 : ∀ (b : Nat) (sp : Nat → Bool) (hd : Bool), DataW.TrodAll enc P W' b sp hd f.resultTypes.toList ((Value.bool true).resultList f.resultTypes.size) (s.fn H (ds ++ [])).results [] := fun b sp hd => by
    rw [hres, hspec]
    exact trodAll_cons_mk (shut_bool htb _) trodAll_mk0
  have hargs : ∀ sp : Nat → Bool, (∀ x ∈ p, sp x.block = true) → DataW.TrodAll enc P W' 0 sp true f.params.toList args.toList (s.fn H (ds ++ [])).args p := fun sp hs => by
    rw [hspec]
    exact all_stay hl hb hty hA hlt' hs
  have hvs : ∀ sp : Nat → Bool, DataW.TrodVars enc P W' sp s.vars (s.fn H (ds ++ [])).vars [] := fun sp => by rw [hspec, hvars]; rfl
  refine ⟨ds, [], p ++ [], [], p, [], hW2, hres1 _ _ _, hargs _ (fun x hx => by simpa using hlt' x hx), hvs _, keptBelow hb _, fun _ => ⟨ok_one hres rfl (okWide_bool_mk htb _), _, _, ([] ++ p) ++ [], ⟨[] ++ p, [], trodAll_append (hargs _ (fun _ _ => rfl)) (hres1 _ _ _), hvs _, rfl, ?_, ?_⟩, ?_⟩⟩
  · intro b off hp
    have hp' : MemPlace.cell b off ∈ p ++ [] := by simpa using hp
    have := hfz b off hp'
    have hlt1 := hlt' (.cell b off) (by simpa using hp')
    rw [← this]
    simp only [World.frozen?, hb.block b hlt1]
  · intro ha
    simpa using hnd ha
  · intro x hx _
    simpa using hx
end Go.Proofs.YtcckofgleghbgaaDoor
