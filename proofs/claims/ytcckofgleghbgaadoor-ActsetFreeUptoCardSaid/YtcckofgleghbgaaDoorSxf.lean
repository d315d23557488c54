/- Symbolic execution, part f: numbers of kinds u8 and u64. -/
import Derived.Test.YtcckofgleghbgaaDoorSxe
namespace Go.Proofs.YtcckofgleghbgaaDoor.Sx
open Go
abbrev u8v (c : UInt8) : Value := .int .u8 (c.toNat : Int)
abbrev u64v (c : UInt64) : Value := .int .u64 (c.toNat : Int)
abbrev i64v (n : Int) : Value := .int .i64 n
def shrU (a : UInt64) (s : Nat) : UInt64 := UInt64.ofNat (a.toNat >>> s)
def shlU (a : UInt64) (s : Nat) : UInt64 := UInt64.ofNat (a.toNat <<< s)
def shrB (a : UInt8) (s : Nat) : UInt8 := UInt8.ofNat (a.toNat >>> s)
def shlB (a : UInt8) (s : Nat) : UInt8 := UInt8.ofNat (a.toNat <<< s)
def i2u (n : Int) : UInt64 := UInt64.ofNat (n % 18446744073709551616).toNat
def i2b (n : Int) : UInt8 := UInt8.ofNat (n % 256).toNat
theorem wrap_u64 (n : Int) : IntKind.u64.wrap n = n % 18446744073709551616 := by simp [IntKind.wrap, IntKind.bits, IntKind.signed]
theorem wrap_u8 (n : Int) : IntKind.u8.wrap n = n % 256 := by simp [IntKind.wrap, IntKind.bits, IntKind.signed]
theorem wrap_u64_nat (n : Nat) : IntKind.u64.wrap (n : Int) = ((UInt64.ofNat n).toNat : Int) := by rw [wrap_u64]; simp
theorem wrap_u8_nat (n : Nat) : IntKind.u8.wrap (n : Int) = ((UInt8.ofNat n).toNat : Int) := by rw [wrap_u8]; simp
theorem ofInt64 (a : UInt64) : BitVec.ofInt 64 (a.toNat : Int) = a.toBitVec := by
  rw [BitVec.ofInt_natCast]
  apply BitVec.eq_of_toNat_eq
  simp
theorem ofInt8 (a : UInt8) : BitVec.ofInt 8 (a.toNat : Int) = a.toBitVec := by
  rw [BitVec.ofInt_natCast]
  apply BitVec.eq_of_toNat_eq
  simp
theorem wrap_bv64 (X : BitVec 64) : IntKind.u64.wrap (X.toNat : Int) = ((UInt64.ofBitVec X).toNat : Int) := by
  rw [wrap_u64]; have := X.isLt; show _ = (X.toNat : Int); omega
theorem wrap_bv8 (X : BitVec 8) : IntKind.u8.wrap (X.toNat : Int) = ((UInt8.ofBitVec X).toNat : Int) := by
  rw [wrap_u8]; have := X.isLt; show _ = (X.toNat : Int); omega
theorem i2u_toNat (n : Int) : ((i2u n).toNat : Int) = n % 18446744073709551616 := by
  have h1 : 0 ≤ n % 18446744073709551616 := Int.emod_nonneg _ (by decide)
  have h2 : n % 18446744073709551616 < 18446744073709551616 := Int.emod_lt_of_pos _ (by decide)
  unfold i2u
  rw [UInt64.toNat_ofNat_of_lt' (by simp [UInt64.size]; omega)]
  omega
theorem i2b_toNat (n : Int) : ((i2b n).toNat : Int) = n % 256 := by
  have h1 : 0 ≤ n % 256 := Int.emod_nonneg _ (by decide)
  have h2 : n % 256 < 256 := Int.emod_lt_of_pos _ (by decide)
  unfold i2b
  rw [UInt8.toNat_ofNat_of_lt' (by simp [UInt8.size]; omega)]
  omega
section
variable {P : Program} {B : Base} {E : Env} {A : Bool} {h : GH} {L : Own}
variable {d : Option Tmp} {ty : TypeId} {pos : String} {af : Array Edge} {g : Option (Nat × Bool)} {x y : Operand} {t t' : TypeId}
theorem OpP.or_u64 {a b : UInt64} (hx : Val E A x (u64v a)) (hy : Val E A y (u64v b)) : OpP P B E A h L ⟨d, .binOp .or t x y t', ty, pos, af, g⟩ (u64v (a ||| b)) :=
  OpP.bin hx hy (by simp only [intBin, IntKind.bits, ofInt64, wrap_bv64]; rfl)
theorem OpP.and_u64 {a b : UInt64} (hx : Val E A x (u64v a)) (hy : Val E A y (u64v b)) : OpP P B E A h L ⟨d, .binOp .and t x y t', ty, pos, af, g⟩ (u64v (a &&& b)) :=
  OpP.bin hx hy (by simp only [intBin, IntKind.bits, ofInt64, wrap_bv64]; rfl)
theorem OpP.andNot_u64 {a b : UInt64} (hx : Val E A x (u64v a)) (hy : Val E A y (u64v b)) : OpP P B E A h L ⟨d, .binOp .andNot t x y t', ty, pos, af, g⟩ (u64v (a &&& ~~~b)) :=
  OpP.bin hx hy (by simp only [intBin, IntKind.bits, ofInt64, wrap_bv64]; rfl)
theorem OpP.or_u8 {a b : UInt8} (hx : Val E A x (u8v a)) (hy : Val E A y (u8v b)) : OpP P B E A h L ⟨d, .binOp .or t x y t', ty, pos, af, g⟩ (u8v (a ||| b)) :=
  OpP.bin hx hy (by simp only [intBin, IntKind.bits, ofInt8, wrap_bv8]; rfl)
theorem OpP.and_u8 {a b : UInt8} (hx : Val E A x (u8v a)) (hy : Val E A y (u8v b)) : OpP P B E A h L ⟨d, .binOp .and t x y t', ty, pos, af, g⟩ (u8v (a &&& b)) :=
  OpP.bin hx hy (by simp only [intBin, IntKind.bits, ofInt8, wrap_bv8]; rfl)
theorem OpP.xor_u8 {a b : UInt8} (hx : Val E A x (u8v a)) (hy : Val E A y (u8v b)) : OpP P B E A h L ⟨d, .binOp .xor t x y t', ty, pos, af, g⟩ (u8v (a ^^^ b)) :=
  OpP.bin hx hy (by simp only [intBin, IntKind.bits, ofInt8, wrap_bv8]; rfl)
theorem OpP.andNot_u8 {a b : UInt8} (hx : Val E A x (u8v a)) (hy : Val E A y (u8v b)) : OpP P B E A h L ⟨d, .binOp .andNot t x y t', ty, pos, af, g⟩ (u8v (a &&& ~~~b)) :=
  OpP.bin hx hy (by simp only [intBin, IntKind.bits, ofInt8, wrap_bv8]; rfl)
theorem OpP.eql_u64 {a b : UInt64} (hx : Val E A x (u64v a)) (hy : Val E A y (u64v b)) : OpP P B E A h L ⟨d, .binOp .eql t x y t', ty, pos, af, g⟩ (.bool (a == b)) :=
  OpP.bin hx hy (by simp only [intBin]; congr 2; rw [Bool.eq_iff_iff]; simp [← UInt64.toNat_inj]; omega)
theorem OpP.neq_u64 {a b : UInt64} (hx : Val E A x (u64v a)) (hy : Val E A y (u64v b)) : OpP P B E A h L ⟨d, .binOp .neq t x y t', ty, pos, af, g⟩ (.bool (a != b)) :=
  OpP.bin hx hy (by simp only [intBin]; congr 2; rw [Bool.eq_iff_iff]; simp [← UInt64.toNat_inj]; omega)
theorem OpP.eql_u8 {a b : UInt8} (hx : Val E A x (u8v a)) (hy : Val E A y (u8v b)) : OpP P B E A h L ⟨d, .binOp .eql t x y t', ty, pos, af, g⟩ (.bool (a == b)) :=
  OpP.bin hx hy (by simp only [intBin]; congr 2; rw [Bool.eq_iff_iff]; simp [← UInt8.toNat_inj]; omega)
theorem OpP.neq_u8 {a b : UInt8} (hx : Val E A x (u8v a)) (hy : Val E A y (u8v b)) : OpP P B E A h L ⟨d, .binOp .neq t x y t', ty, pos, af, g⟩ (.bool (a != b)) :=
  OpP.bin hx hy (by simp only [intBin]; congr 2; rw [Bool.eq_iff_iff]; simp [← UInt8.toNat_inj]; omega)
/-- A constant, as a number of its kind. -/
theorem Val.c64 {c : Int} (hy : Val E A x (.int .u64 c)) (hc : ((UInt64.ofNat c.toNat).toNat : Int) = c) : Val E A x (u64v (UInt64.ofNat c.toNat)) := by
  unfold u64v; rw [hc]; exact hy
theorem Val.c8 {c : Int} (hy : Val E A x (.int .u8 c)) (hc : ((UInt8.ofNat c.toNat).toNat : Int) = c) : Val E A x (u8v (UInt8.ofNat c.toNat)) := by
  unfold u8v; rw [hc]; exact hy
theorem OpP.shl_u64 {a : UInt64} {k' : IntKind} {b : Int} (hx : Val E A x (u64v a)) (hy : Val E A y (.int k' b)) (hb : 0 ≤ b) (hb2 : b < 64) : OpP P B E A h L ⟨d, .binOp .shl t x y t', ty, pos, af, g⟩ (u64v (shlU a b.toNat)) := by
  have := OpP.shl (P := P) (B := B) (h := h) (L := L) (d := d) (ty := ty) (pos := pos) (af := af) (g := g) (t := t) (t' := t') hx hy hb
  have e : IntKind.u64.wrap ((a.toNat : Int) * 2 ^ (min b.toNat IntKind.u64.bits)) = ((shlU a b.toNat).toNat : Int) := by
    rw [show min b.toNat IntKind.u64.bits = b.toNat by simp [IntKind.bits]; omega]
    rw [show (a.toNat : Int) * 2 ^ b.toNat = ((a.toNat <<< b.toNat : Nat) : Int) by simp [Nat.shiftLeft_eq]]
    exact wrap_u64_nat _
  rw [e] at this
  exact this
theorem OpP.shr_u64 {a : UInt64} {k' : IntKind} {b : Int} (hx : Val E A x (u64v a)) (hy : Val E A y (.int k' b)) (hb : 0 ≤ b) : OpP P B E A h L ⟨d, .binOp .shr t x y t', ty, pos, af, g⟩ (u64v (shrU a b.toNat)) := by
  have := OpP.shr (P := P) (B := B) (h := h) (L := L) (d := d) (ty := ty) (pos := pos) (af := af) (g := g) (t := t) (t' := t') hx hy hb
  have e : (a.toNat : Int).fdiv (2 ^ (min b.toNat IntKind.u64.bits)) = ((shrU a b.toNat).toNat : Int) := by
    have hlt := a.toNat_lt
    have h1 : a.toNat >>> b.toNat < 18446744073709551616 := Nat.lt_of_le_of_lt (by rw [Nat.shiftRight_eq_div_pow]; exact Nat.div_le_self _ _) hlt
    have h2 : (shrU a b.toNat).toNat = a.toNat >>> b.toNat := by unfold shrU; exact UInt64.toNat_ofNat_of_lt' (by simpa [UInt64.size] using h1)
    rw [h2, show (a.toNat : Int).fdiv (2 ^ (min b.toNat IntKind.u64.bits)) = ((a.toNat / 2 ^ (min b.toNat 64) : Nat) : Int) by
      rw [Int.fdiv_eq_ediv_of_nonneg _ (by exact Int.le_of_lt (Int.pow_pos (by decide)))]; simp [IntKind.bits]]
    congr 1
    rw [Nat.shiftRight_eq_div_pow]
    rcases Nat.le_total b.toNat 64 with h | h
    · rw [Nat.min_eq_left h]
    · rw [Nat.min_eq_right h, Nat.div_eq_of_lt hlt, Nat.div_eq_of_lt]
      exact Nat.lt_of_lt_of_le hlt (Nat.pow_le_pow_right (by decide) h)
  rw [e] at this
  exact this
theorem OpP.shr_u8 {a : UInt8} {k' : IntKind} {b : Int} (hx : Val E A x (u8v a)) (hy : Val E A y (.int k' b)) (hb : 0 ≤ b) : OpP P B E A h L ⟨d, .binOp .shr t x y t', ty, pos, af, g⟩ (u8v (shrB a b.toNat)) := by
  have := OpP.shr (P := P) (B := B) (h := h) (L := L) (d := d) (ty := ty) (pos := pos) (af := af) (g := g) (t := t) (t' := t') hx hy hb
  have e : (a.toNat : Int).fdiv (2 ^ (min b.toNat IntKind.u8.bits)) = ((shrB a b.toNat).toNat : Int) := by
    have hlt := a.toNat_lt
    have h1 : a.toNat >>> b.toNat < 256 := Nat.lt_of_le_of_lt (by rw [Nat.shiftRight_eq_div_pow]; exact Nat.div_le_self _ _) hlt
    have h2 : (shrB a b.toNat).toNat = a.toNat >>> b.toNat := by unfold shrB; exact UInt8.toNat_ofNat_of_lt' (by simpa [UInt8.size] using h1)
    rw [h2, show (a.toNat : Int).fdiv (2 ^ (min b.toNat IntKind.u8.bits)) = ((a.toNat / 2 ^ (min b.toNat 8) : Nat) : Int) by
      rw [Int.fdiv_eq_ediv_of_nonneg _ (by exact Int.le_of_lt (Int.pow_pos (by decide)))]; simp [IntKind.bits]]
    congr 1
    rw [Nat.shiftRight_eq_div_pow]
    rcases Nat.le_total b.toNat 8 with h | h
    · rw [Nat.min_eq_left h]
    · rw [Nat.min_eq_right h, Nat.div_eq_of_lt hlt, Nat.div_eq_of_lt]
      exact Nat.lt_of_lt_of_le hlt (Nat.pow_le_pow_right (by decide) h)
  rw [e] at this
  exact this
theorem OpP.conv_u8_u64 {a : UInt8} {dd : TypeDesc} (hx : Val E A x (u8v a)) (hi1 : Under P t dd) (hi2 : Under P t' (.int .u64)) : OpP P B E A h L ⟨d, .convert t t' x, ty, pos, af, g⟩ (u64v a.toUInt64) := by
  have := OpP.conv (B := B) (h := h) (L := L) (d := d) (ty := ty) (pos := pos) (af := af) (g := g) hx hi1 hi2
  have e : UInt64.ofNat a.toNat = a.toUInt64 := by apply UInt64.toNat_inj.1; simp
  rw [wrap_u64_nat, e] at this
  exact this
theorem OpP.conv_u64_u8 {a : UInt64} {dd : TypeDesc} (hx : Val E A x (u64v a)) (hi1 : Under P t dd) (hi2 : Under P t' (.int .u8)) : OpP P B E A h L ⟨d, .convert t t' x, ty, pos, af, g⟩ (u8v a.toUInt8) := by
  have := OpP.conv (B := B) (h := h) (L := L) (d := d) (ty := ty) (pos := pos) (af := af) (g := g) hx hi1 hi2
  have e : UInt8.ofNat a.toNat = a.toUInt8 := by apply UInt8.toNat_inj.1; simp
  rw [wrap_u8_nat, e] at this
  exact this
theorem OpP.conv_i64_u64 {a : Int} {dd : TypeDesc} (hx : Val E A x (i64v a)) (hi1 : Under P t dd) (hi2 : Under P t' (.int .u64)) : OpP P B E A h L ⟨d, .convert t t' x, ty, pos, af, g⟩ (u64v (i2u a)) := by
  have := OpP.conv (B := B) (h := h) (L := L) (d := d) (ty := ty) (pos := pos) (af := af) (g := g) hx hi1 hi2
  rw [wrap_u64, ← i2u_toNat] at this
  exact this
theorem OpP.conv_i64_u8 {a : Int} {dd : TypeDesc} (hx : Val E A x (i64v a)) (hi1 : Under P t dd) (hi2 : Under P t' (.int .u8)) : OpP P B E A h L ⟨d, .convert t t' x, ty, pos, af, g⟩ (u8v (i2b a)) := by
  have := OpP.conv (B := B) (h := h) (L := L) (d := d) (ty := ty) (pos := pos) (af := af) (g := g) hx hi1 hi2
  rw [wrap_u8, ← i2b_toNat] at this
  exact this
theorem OpP.conv_u8_i64 {a : UInt8} {dd : TypeDesc} (hx : Val E A x (u8v a)) (hi1 : Under P t dd) (hi2 : Under P t' (.int .i64)) : OpP P B E A h L ⟨d, .convert t t' x, ty, pos, af, g⟩ (i64v (a.toNat : Int)) := by
  have := OpP.conv (B := B) (h := h) (L := L) (d := d) (ty := ty) (pos := pos) (af := af) (g := g) hx hi1 hi2
  rw [wrap64_in (by omega) (by have := a.toNat_lt; omega)] at this
  exact this
theorem OpP.neg64 {a : Int} (hx : Val E A x (i64v a)) (h1 : -9223372036854775807 ≤ a) (h2 : a ≤ 9223372036854775807) : OpP P B E A h L ⟨d, .unOp .neg t x, ty, pos, af, g⟩ (i64v (-a)) := by
  have := OpP.neg (P := P) (B := B) (h := h) (L := L) (d := d) (ty := ty) (pos := pos) (af := af) (g := g) (t := t) hx
  rw [wrap64_in (by omega) (by omega), Int.zero_sub] at this
  exact this
/-- A number of 64 bits as an int. -/
def u2i (a : UInt64) : Int := IntKind.i64.wrap (a.toNat : Int)
theorem u2i_small {a : UInt64} (ha : a.toNat < 9223372036854775808) : u2i a = (a.toNat : Int) := wrap64_in (by omega) (by omega)
theorem OpP.conv_u64_i64 {a : UInt64} {dd : TypeDesc} (hx : Val E A x (u64v a)) (hi1 : Under P t dd) (hi2 : Under P t' (.int .i64)) : OpP P B E A h L ⟨d, .convert t t' x, ty, pos, af, g⟩ (i64v (u2i a)) :=
  OpP.conv (B := B) (h := h) (L := L) (d := d) (ty := ty) (pos := pos) (af := af) (g := g) hx hi1 hi2
end
end Go.Proofs.YtcckofgleghbgaaDoor.Sx
