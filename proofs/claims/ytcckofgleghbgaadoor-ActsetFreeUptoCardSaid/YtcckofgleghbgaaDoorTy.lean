/- Facts on the types of this translation, by program (gen_ty.py). -/
import Derived.Test.YtcckofgleghbgaaDoorProg
import Derived.Test.YtcckofgleghbgaaDoorSxc
namespace Go.Proofs.YtcckofgleghbgaaDoor.Sx
open Go
section
variable {P : Program} {t : TypeId}
theorem SizeIs.mk1 {s : Nat} (h : (P.info? t).map (·.size) = some s) : SizeIs P t s := by
  cases hi : P.info? t with
  | none => simp [hi] at h
  | some i => simp [hi] at h; exact ⟨⟨i, hi, h⟩⟩
theorem BytesIs.mk1 {s : Nat} (h : (P.info? t).map (·.bytes) = some s) : BytesIs P t s := by
  cases hi : P.info? t with
  | none => simp [hi] at h
  | some i => simp [hi] at h; exact ⟨⟨i, hi, h⟩⟩
theorem ZeroIs.mk1 {z : Value} (h : (P.info? t).bind (·.zero) = some z) : ZeroIs P t z := by
  cases hi : P.info? t with
  | none => simp [hi] at h
  | some i => simp [hi] at h; exact ⟨⟨i, hi, h⟩⟩
theorem OneCell.mk1 (h : (P.underlying t).map (fun d => match d with | .struct _ | .array _ _ => false | _ => true) = some true) : OneCell P t := by
  cases hi : P.underlying t with
  | none => simp [hi] at h
  | some d => simp only [hi, Option.map_some, Option.some.injEq] at h; exact ⟨⟨d, hi, h⟩⟩
theorem ManyCells.mk1 {s : Nat} (h : (P.underlying t).map (fun d => match d with | .struct _ | .array _ _ => true | _ => false) = some true) (h2 : (P.info? t).map (·.size) = some s) : ManyCells P t s := by
  cases hi : P.underlying t with
  | none => simp [hi] at h
  | some d => simp only [hi, Option.map_some, Option.some.injEq] at h; exact ⟨⟨d, hi, h⟩, (SizeIs.mk1 h2).out⟩
def fieldOff (P : Program) (t : TypeId) (f : Nat) : Option Nat := match P.underlying t with
  | some (.struct fs) => match fs[f]? with
    | some fd => match P.info? fd.type with
      | some i => bif Nat.beq i.size 0 then none else some fd.offset
      | none => none
    | none => none
  | _ => none
theorem FieldIs.mk1 {f off : Nat} (h : fieldOff P t f = some off) : FieldIs P t f off := by
  unfold fieldOff at h
  split at h
  · rename_i fs hu
    split at h
    · rename_i fd hf
      split at h
      · rename_i i hi
        cases hb : Nat.beq i.size 0 with
        | true => simp [hb] at h
        | false =>
          simp [hb] at h
          exact ⟨⟨fs, fd, i, hu, hf, h, hi, fun e => by simp [e] at hb⟩⟩
      · cases h
    · cases h
  · cases h
def structShape (P : Program) (t : TypeId) : Option (List (Option (Nat × Nat)) × Value) := match P.underlying t with
  | some (.struct fs) => match P.info? t with
    | some i => match i.zero with
      | some z => some (fs.toList.map (fun f => (P.info? f.type).map fun j => (f.offset, j.size)), z)
      | none => none
    | none => none
  | _ => none
theorem StructIs.mk1 {places : List (Nat × Nat)} {zero : List Value} (h : structShape P t = some (places.map some, .agg zero.toArray)) : StructIs P t places zero := by
  unfold structShape at h
  split at h
  · rename_i fs hu
    split at h
    · rename_i i hi
      split at h
      · rename_i z hz
        simp only [Option.some.injEq, Prod.mk.injEq] at h
        exact ⟨⟨fs, i, hu, hi, by rw [hz, h.2], h.1⟩⟩
      · cases h
    · cases h
  · cases h
class ArrayIs (P : Program) (t : TypeId) (n : outParam Nat) (e : outParam TypeId) : Prop where
  out : P.underlying t = some (.array n e)
end
instance : OneCell Tryd.prog 1 := OneCell.mk1 (by kernel_rfl)
instance : SizeIs Tryd.prog 1 1 := SizeIs.mk1 (by kernel_rfl)
-- 2: int64
instance : Under Tryd.prog 2 (.int .i64) := ⟨by kernel_rfl⟩
instance : SizeIs Tryd.prog 2 1 := SizeIs.mk1 (by kernel_rfl)
instance : BytesIs Tryd.prog 2 8 := BytesIs.mk1 (by kernel_rfl)
instance : ZeroIs Tryd.prog 2 (.int .i64 0) := ZeroIs.mk1 (by kernel_rfl)
instance : OneCell Tryd.prog 2 := OneCell.mk1 (by kernel_rfl)
-- 3: int
instance : Under Tryd.prog 3 (.int .i64) := ⟨by kernel_rfl⟩
instance : SizeIs Tryd.prog 3 1 := SizeIs.mk1 (by kernel_rfl)
instance : BytesIs Tryd.prog 3 8 := BytesIs.mk1 (by kernel_rfl)
instance : ZeroIs Tryd.prog 3 (.int .i64 0) := ZeroIs.mk1 (by kernel_rfl)
instance : OneCell Tryd.prog 3 := OneCell.mk1 (by kernel_rfl)
-- 4: bool
instance : Under Tryd.prog 4 (.bool) := ⟨by kernel_rfl⟩
instance : SizeIs Tryd.prog 4 1 := SizeIs.mk1 (by kernel_rfl)
instance : BytesIs Tryd.prog 4 1 := BytesIs.mk1 (by kernel_rfl)
instance : ZeroIs Tryd.prog 4 (.bool false) := ZeroIs.mk1 (by kernel_rfl)
instance : OneCell Tryd.prog 4 := OneCell.mk1 (by kernel_rfl)
-- 5: uint8
instance : Under Tryd.prog 5 (.int .u8) := ⟨by kernel_rfl⟩
instance : SizeIs Tryd.prog 5 1 := SizeIs.mk1 (by kernel_rfl)
instance : BytesIs Tryd.prog 5 1 := BytesIs.mk1 (by kernel_rfl)
instance : ZeroIs Tryd.prog 5 (.int .u8 0) := ZeroIs.mk1 (by kernel_rfl)
instance : OneCell Tryd.prog 5 := OneCell.mk1 (by kernel_rfl)
-- 9: string
instance : Under Tryd.prog 9 (.string) := ⟨by kernel_rfl⟩
instance : SizeIs Tryd.prog 9 1 := SizeIs.mk1 (by kernel_rfl)
instance : BytesIs Tryd.prog 9 16 := BytesIs.mk1 (by kernel_rfl)
instance : ZeroIs Tryd.prog 9 (.string ByteArray.empty) := ZeroIs.mk1 (by kernel_rfl)
instance : OneCell Tryd.prog 9 := OneCell.mk1 (by kernel_rfl)
-- 12: uintptr
instance : Under Tryd.prog 12 (.int .u64) := ⟨by kernel_rfl⟩
instance : SizeIs Tryd.prog 12 1 := SizeIs.mk1 (by kernel_rfl)
instance : BytesIs Tryd.prog 12 8 := BytesIs.mk1 (by kernel_rfl)
instance : ZeroIs Tryd.prog 12 (.int .u64 0) := ZeroIs.mk1 (by kernel_rfl)
instance : OneCell Tryd.prog 12 := OneCell.mk1 (by kernel_rfl)
-- 13: struct { msg string; addr uintptr }
instance : SizeIs Tryd.prog 13 2 := SizeIs.mk1 (by kernel_rfl)
instance : BytesIs Tryd.prog 13 24 := BytesIs.mk1 (by kernel_rfl)
instance : ZeroIs Tryd.prog 13 (.agg #[.string ByteArray.empty, .int .u64 0]) := ZeroIs.mk1 (by kernel_rfl)
instance : ManyCells Tryd.prog 13 2 := ManyCells.mk1 (by kernel_rfl) (by kernel_rfl)
instance : StructIs Tryd.prog 13 [(0, 1), (1, 1)] [.string ByteArray.empty, .int .u64 0] := StructIs.mk1 (by kernel_rfl)
instance : FieldIs Tryd.prog 13 0 0 := FieldIs.mk1 (by kernel_rfl)
instance : FieldIs Tryd.prog 13 1 1 := FieldIs.mk1 (by kernel_rfl)
-- 21: int32
instance : Under Tryd.prog 21 (.int .i32) := ⟨by kernel_rfl⟩
instance : SizeIs Tryd.prog 21 1 := SizeIs.mk1 (by kernel_rfl)
instance : BytesIs Tryd.prog 21 4 := BytesIs.mk1 (by kernel_rfl)
instance : ZeroIs Tryd.prog 21 (.int .i32 0) := ZeroIs.mk1 (by kernel_rfl)
instance : OneCell Tryd.prog 21 := OneCell.mk1 (by kernel_rfl)
-- 22: []api.Oxm
instance : Under Tryd.prog 22 (.slice 39) := ⟨by kernel_rfl⟩
instance : SizeIs Tryd.prog 22 1 := SizeIs.mk1 (by kernel_rfl)
instance : BytesIs Tryd.prog 22 24 := BytesIs.mk1 (by kernel_rfl)
instance : ZeroIs Tryd.prog 22 (.slice none 0 0) := ZeroIs.mk1 (by kernel_rfl)
instance : OneCell Tryd.prog 22 := OneCell.mk1 (by kernel_rfl)
instance : OneCell Tryd.prog 23 := OneCell.mk1 (by kernel_rfl)
instance : SizeIs Tryd.prog 23 1 := SizeIs.mk1 (by kernel_rfl)
instance : OneCell Tryd.prog 24 := OneCell.mk1 (by kernel_rfl)
instance : SizeIs Tryd.prog 24 1 := SizeIs.mk1 (by kernel_rfl)
instance : OneCell Tryd.prog 25 := OneCell.mk1 (by kernel_rfl)
instance : SizeIs Tryd.prog 25 1 := SizeIs.mk1 (by kernel_rfl)
instance : OneCell Tryd.prog 27 := OneCell.mk1 (by kernel_rfl)
instance : SizeIs Tryd.prog 27 1 := SizeIs.mk1 (by kernel_rfl)
instance : OneCell Tryd.prog 28 := OneCell.mk1 (by kernel_rfl)
instance : SizeIs Tryd.prog 28 1 := SizeIs.mk1 (by kernel_rfl)
instance : OneCell Tryd.prog 29 := OneCell.mk1 (by kernel_rfl)
instance : SizeIs Tryd.prog 29 1 := SizeIs.mk1 (by kernel_rfl)
-- 30: []api.Act
instance : Under Tryd.prog 30 (.slice 41) := ⟨by kernel_rfl⟩
instance : SizeIs Tryd.prog 30 1 := SizeIs.mk1 (by kernel_rfl)
instance : BytesIs Tryd.prog 30 24 := BytesIs.mk1 (by kernel_rfl)
instance : ZeroIs Tryd.prog 30 (.slice none 0 0) := ZeroIs.mk1 (by kernel_rfl)
instance : OneCell Tryd.prog 30 := OneCell.mk1 (by kernel_rfl)
instance : OneCell Tryd.prog 31 := OneCell.mk1 (by kernel_rfl)
instance : SizeIs Tryd.prog 31 1 := SizeIs.mk1 (by kernel_rfl)
-- 32: api.Errno gunwale/api.Errno
instance : Under Tryd.prog 32 (.int .i64) := ⟨by kernel_rfl⟩
instance : SizeIs Tryd.prog 32 1 := SizeIs.mk1 (by kernel_rfl)
instance : BytesIs Tryd.prog 32 8 := BytesIs.mk1 (by kernel_rfl)
instance : ZeroIs Tryd.prog 32 (.int .i64 0) := ZeroIs.mk1 (by kernel_rfl)
instance : OneCell Tryd.prog 32 := OneCell.mk1 (by kernel_rfl)
instance : OneCell Tryd.prog 34 := OneCell.mk1 (by kernel_rfl)
instance : SizeIs Tryd.prog 34 1 := SizeIs.mk1 (by kernel_rfl)
instance : OneCell Tryd.prog 35 := OneCell.mk1 (by kernel_rfl)
instance : SizeIs Tryd.prog 35 1 := SizeIs.mk1 (by kernel_rfl)
-- 36: uint64
instance : Under Tryd.prog 36 (.int .u64) := ⟨by kernel_rfl⟩
instance : SizeIs Tryd.prog 36 1 := SizeIs.mk1 (by kernel_rfl)
instance : BytesIs Tryd.prog 36 8 := BytesIs.mk1 (by kernel_rfl)
instance : ZeroIs Tryd.prog 36 (.int .u64 0) := ZeroIs.mk1 (by kernel_rfl)
instance : OneCell Tryd.prog 36 := OneCell.mk1 (by kernel_rfl)
-- 37: []uint8
instance : Under Tryd.prog 37 (.slice 5) := ⟨by kernel_rfl⟩
instance : SizeIs Tryd.prog 37 1 := SizeIs.mk1 (by kernel_rfl)
instance : BytesIs Tryd.prog 37 24 := BytesIs.mk1 (by kernel_rfl)
instance : ZeroIs Tryd.prog 37 (.slice none 0 0) := ZeroIs.mk1 (by kernel_rfl)
instance : OneCell Tryd.prog 37 := OneCell.mk1 (by kernel_rfl)
-- 38: struct { Class int; Field int; Has bool; Exp uint64; Value []uint8; Mask []uint8 }
instance : SizeIs Tryd.prog 38 6 := SizeIs.mk1 (by kernel_rfl)
instance : BytesIs Tryd.prog 38 80 := BytesIs.mk1 (by kernel_rfl)
instance : ZeroIs Tryd.prog 38 (.agg #[.int .i64 0, .int .i64 0, .bool false, .int .u64 0, .slice none 0 0, .slice none 0 0]) := ZeroIs.mk1 (by kernel_rfl)
instance : ManyCells Tryd.prog 38 6 := ManyCells.mk1 (by kernel_rfl) (by kernel_rfl)
instance : StructIs Tryd.prog 38 [(0, 1), (1, 1), (2, 1), (3, 1), (4, 1), (5, 1)] [.int .i64 0, .int .i64 0, .bool false, .int .u64 0, .slice none 0 0, .slice none 0 0] := StructIs.mk1 (by kernel_rfl)
instance : FieldIs Tryd.prog 38 0 0 := FieldIs.mk1 (by kernel_rfl)
instance : FieldIs Tryd.prog 38 1 1 := FieldIs.mk1 (by kernel_rfl)
instance : FieldIs Tryd.prog 38 2 2 := FieldIs.mk1 (by kernel_rfl)
instance : FieldIs Tryd.prog 38 3 3 := FieldIs.mk1 (by kernel_rfl)
instance : FieldIs Tryd.prog 38 4 4 := FieldIs.mk1 (by kernel_rfl)
instance : FieldIs Tryd.prog 38 5 5 := FieldIs.mk1 (by kernel_rfl)
-- 39: api.Oxm gunwale/api.Oxm
instance : SizeIs Tryd.prog 39 6 := SizeIs.mk1 (by kernel_rfl)
instance : BytesIs Tryd.prog 39 80 := BytesIs.mk1 (by kernel_rfl)
instance : ZeroIs Tryd.prog 39 (.agg #[.int .i64 0, .int .i64 0, .bool false, .int .u64 0, .slice none 0 0, .slice none 0 0]) := ZeroIs.mk1 (by kernel_rfl)
instance : ManyCells Tryd.prog 39 6 := ManyCells.mk1 (by kernel_rfl) (by kernel_rfl)
instance : StructIs Tryd.prog 39 [(0, 1), (1, 1), (2, 1), (3, 1), (4, 1), (5, 1)] [.int .i64 0, .int .i64 0, .bool false, .int .u64 0, .slice none 0 0, .slice none 0 0] := StructIs.mk1 (by kernel_rfl)
instance : FieldIs Tryd.prog 39 0 0 := FieldIs.mk1 (by kernel_rfl)
instance : FieldIs Tryd.prog 39 1 1 := FieldIs.mk1 (by kernel_rfl)
instance : FieldIs Tryd.prog 39 2 2 := FieldIs.mk1 (by kernel_rfl)
instance : FieldIs Tryd.prog 39 3 3 := FieldIs.mk1 (by kernel_rfl)
instance : FieldIs Tryd.prog 39 4 4 := FieldIs.mk1 (by kernel_rfl)
instance : FieldIs Tryd.prog 39 5 5 := FieldIs.mk1 (by kernel_rfl)
-- 40: struct { Type int; A uint64; B uint64; Set api.Oxm; Data []uint8 }
instance : SizeIs Tryd.prog 40 10 := SizeIs.mk1 (by kernel_rfl)
instance : BytesIs Tryd.prog 40 128 := BytesIs.mk1 (by kernel_rfl)
instance : ZeroIs Tryd.prog 40 (.agg #[.int .i64 0, .int .u64 0, .int .u64 0, .int .i64 0, .int .i64 0, .bool false, .int .u64 0, .slice none 0 0, .slice none 0 0, .slice none 0 0]) := ZeroIs.mk1 (by kernel_rfl)
instance : ManyCells Tryd.prog 40 10 := ManyCells.mk1 (by kernel_rfl) (by kernel_rfl)
instance : StructIs Tryd.prog 40 [(0, 1), (1, 1), (2, 1), (3, 6), (9, 1)] [.int .i64 0, .int .u64 0, .int .u64 0, .int .i64 0, .int .i64 0, .bool false, .int .u64 0, .slice none 0 0, .slice none 0 0, .slice none 0 0] := StructIs.mk1 (by kernel_rfl)
instance : FieldIs Tryd.prog 40 0 0 := FieldIs.mk1 (by kernel_rfl)
instance : FieldIs Tryd.prog 40 1 1 := FieldIs.mk1 (by kernel_rfl)
instance : FieldIs Tryd.prog 40 2 2 := FieldIs.mk1 (by kernel_rfl)
instance : FieldIs Tryd.prog 40 3 3 := FieldIs.mk1 (by kernel_rfl)
instance : FieldIs Tryd.prog 40 4 9 := FieldIs.mk1 (by kernel_rfl)
-- 41: api.Act gunwale/api.Act
instance : SizeIs Tryd.prog 41 10 := SizeIs.mk1 (by kernel_rfl)
instance : BytesIs Tryd.prog 41 128 := BytesIs.mk1 (by kernel_rfl)
instance : ZeroIs Tryd.prog 41 (.agg #[.int .i64 0, .int .u64 0, .int .u64 0, .int .i64 0, .int .i64 0, .bool false, .int .u64 0, .slice none 0 0, .slice none 0 0, .slice none 0 0]) := ZeroIs.mk1 (by kernel_rfl)
instance : ManyCells Tryd.prog 41 10 := ManyCells.mk1 (by kernel_rfl) (by kernel_rfl)
instance : StructIs Tryd.prog 41 [(0, 1), (1, 1), (2, 1), (3, 6), (9, 1)] [.int .i64 0, .int .u64 0, .int .u64 0, .int .i64 0, .int .i64 0, .bool false, .int .u64 0, .slice none 0 0, .slice none 0 0, .slice none 0 0] := StructIs.mk1 (by kernel_rfl)
instance : FieldIs Tryd.prog 41 0 0 := FieldIs.mk1 (by kernel_rfl)
instance : FieldIs Tryd.prog 41 1 1 := FieldIs.mk1 (by kernel_rfl)
instance : FieldIs Tryd.prog 41 2 2 := FieldIs.mk1 (by kernel_rfl)
instance : FieldIs Tryd.prog 41 3 3 := FieldIs.mk1 (by kernel_rfl)
instance : FieldIs Tryd.prog 41 4 9 := FieldIs.mk1 (by kernel_rfl)
instance : OneCell Tryd.prog 42 := OneCell.mk1 (by kernel_rfl)
instance : SizeIs Tryd.prog 42 1 := SizeIs.mk1 (by kernel_rfl)
instance : OneCell Tryd.prog 43 := OneCell.mk1 (by kernel_rfl)
instance : SizeIs Tryd.prog 43 1 := SizeIs.mk1 (by kernel_rfl)
instance : OneCell Tryd.prog 44 := OneCell.mk1 (by kernel_rfl)
instance : SizeIs Tryd.prog 44 1 := SizeIs.mk1 (by kernel_rfl)
instance : OneCell Tryd.prog 45 := OneCell.mk1 (by kernel_rfl)
instance : SizeIs Tryd.prog 45 1 := SizeIs.mk1 (by kernel_rfl)
instance : OneCell Tryd.prog 46 := OneCell.mk1 (by kernel_rfl)
instance : SizeIs Tryd.prog 46 1 := SizeIs.mk1 (by kernel_rfl)
instance : OneCell Tryd.prog 48 := OneCell.mk1 (by kernel_rfl)
instance : SizeIs Tryd.prog 48 1 := SizeIs.mk1 (by kernel_rfl)
instance : OneCell Tryd.prog 49 := OneCell.mk1 (by kernel_rfl)
instance : SizeIs Tryd.prog 49 1 := SizeIs.mk1 (by kernel_rfl)
instance : OneCell Tryd.prog 50 := OneCell.mk1 (by kernel_rfl)
instance : SizeIs Tryd.prog 50 1 := SizeIs.mk1 (by kernel_rfl)
-- 51: map[cover.key]int
instance : Under Tryd.prog 51 (.map 53 3) := ⟨by kernel_rfl⟩
instance : SizeIs Tryd.prog 51 1 := SizeIs.mk1 (by kernel_rfl)
instance : BytesIs Tryd.prog 51 8 := BytesIs.mk1 (by kernel_rfl)
instance : ZeroIs Tryd.prog 51 (.map none) := ZeroIs.mk1 (by kernel_rfl)
instance : OneCell Tryd.prog 51 := OneCell.mk1 (by kernel_rfl)
-- 52: struct { class int; field int; exp uint64 }
instance : SizeIs Tryd.prog 52 3 := SizeIs.mk1 (by kernel_rfl)
instance : BytesIs Tryd.prog 52 24 := BytesIs.mk1 (by kernel_rfl)
instance : ZeroIs Tryd.prog 52 (.agg #[.int .i64 0, .int .i64 0, .int .u64 0]) := ZeroIs.mk1 (by kernel_rfl)
instance : ManyCells Tryd.prog 52 3 := ManyCells.mk1 (by kernel_rfl) (by kernel_rfl)
instance : StructIs Tryd.prog 52 [(0, 1), (1, 1), (2, 1)] [.int .i64 0, .int .i64 0, .int .u64 0] := StructIs.mk1 (by kernel_rfl)
instance : FieldIs Tryd.prog 52 0 0 := FieldIs.mk1 (by kernel_rfl)
instance : FieldIs Tryd.prog 52 1 1 := FieldIs.mk1 (by kernel_rfl)
instance : FieldIs Tryd.prog 52 2 2 := FieldIs.mk1 (by kernel_rfl)
-- 53: cover.key gunwale/cover.key
instance : SizeIs Tryd.prog 53 3 := SizeIs.mk1 (by kernel_rfl)
instance : BytesIs Tryd.prog 53 24 := BytesIs.mk1 (by kernel_rfl)
instance : ZeroIs Tryd.prog 53 (.agg #[.int .i64 0, .int .i64 0, .int .u64 0]) := ZeroIs.mk1 (by kernel_rfl)
instance : ManyCells Tryd.prog 53 3 := ManyCells.mk1 (by kernel_rfl) (by kernel_rfl)
instance : StructIs Tryd.prog 53 [(0, 1), (1, 1), (2, 1)] [.int .i64 0, .int .i64 0, .int .u64 0] := StructIs.mk1 (by kernel_rfl)
instance : FieldIs Tryd.prog 53 0 0 := FieldIs.mk1 (by kernel_rfl)
instance : FieldIs Tryd.prog 53 1 1 := FieldIs.mk1 (by kernel_rfl)
instance : FieldIs Tryd.prog 53 2 2 := FieldIs.mk1 (by kernel_rfl)
instance : OneCell Tryd.prog 55 := OneCell.mk1 (by kernel_rfl)
instance : SizeIs Tryd.prog 55 1 := SizeIs.mk1 (by kernel_rfl)
instance : OneCell Tryd.prog 56 := OneCell.mk1 (by kernel_rfl)
instance : SizeIs Tryd.prog 56 1 := SizeIs.mk1 (by kernel_rfl)
instance : OneCell Tryd.prog 57 := OneCell.mk1 (by kernel_rfl)
instance : SizeIs Tryd.prog 57 1 := SizeIs.mk1 (by kernel_rfl)
instance : OneCell Tryd.prog 58 := OneCell.mk1 (by kernel_rfl)
instance : SizeIs Tryd.prog 58 1 := SizeIs.mk1 (by kernel_rfl)
-- 59: struct { rank int; kind int; field int }
instance : SizeIs Tryd.prog 59 3 := SizeIs.mk1 (by kernel_rfl)
instance : BytesIs Tryd.prog 59 24 := BytesIs.mk1 (by kernel_rfl)
instance : ZeroIs Tryd.prog 59 (.agg #[.int .i64 0, .int .i64 0, .int .i64 0]) := ZeroIs.mk1 (by kernel_rfl)
instance : ManyCells Tryd.prog 59 3 := ManyCells.mk1 (by kernel_rfl) (by kernel_rfl)
instance : StructIs Tryd.prog 59 [(0, 1), (1, 1), (2, 1)] [.int .i64 0, .int .i64 0, .int .i64 0] := StructIs.mk1 (by kernel_rfl)
instance : FieldIs Tryd.prog 59 0 0 := FieldIs.mk1 (by kernel_rfl)
instance : FieldIs Tryd.prog 59 1 1 := FieldIs.mk1 (by kernel_rfl)
instance : FieldIs Tryd.prog 59 2 2 := FieldIs.mk1 (by kernel_rfl)
-- 60: actset.place gunwale/actset.place
instance : SizeIs Tryd.prog 60 3 := SizeIs.mk1 (by kernel_rfl)
instance : BytesIs Tryd.prog 60 24 := BytesIs.mk1 (by kernel_rfl)
instance : ZeroIs Tryd.prog 60 (.agg #[.int .i64 0, .int .i64 0, .int .i64 0]) := ZeroIs.mk1 (by kernel_rfl)
instance : ManyCells Tryd.prog 60 3 := ManyCells.mk1 (by kernel_rfl) (by kernel_rfl)
instance : StructIs Tryd.prog 60 [(0, 1), (1, 1), (2, 1)] [.int .i64 0, .int .i64 0, .int .i64 0] := StructIs.mk1 (by kernel_rfl)
instance : FieldIs Tryd.prog 60 0 0 := FieldIs.mk1 (by kernel_rfl)
instance : FieldIs Tryd.prog 60 1 1 := FieldIs.mk1 (by kernel_rfl)
instance : FieldIs Tryd.prog 60 2 2 := FieldIs.mk1 (by kernel_rfl)
instance : OneCell Tryd.prog 61 := OneCell.mk1 (by kernel_rfl)
instance : SizeIs Tryd.prog 61 1 := SizeIs.mk1 (by kernel_rfl)
instance : OneCell Tryd.prog 62 := OneCell.mk1 (by kernel_rfl)
instance : SizeIs Tryd.prog 62 1 := SizeIs.mk1 (by kernel_rfl)
instance : OneCell Tryd.prog 63 := OneCell.mk1 (by kernel_rfl)
instance : SizeIs Tryd.prog 63 1 := SizeIs.mk1 (by kernel_rfl)
instance : OneCell Tryd.prog 64 := OneCell.mk1 (by kernel_rfl)
instance : SizeIs Tryd.prog 64 1 := SizeIs.mk1 (by kernel_rfl)
instance : OneCell Tryd.prog 65 := OneCell.mk1 (by kernel_rfl)
instance : SizeIs Tryd.prog 65 1 := SizeIs.mk1 (by kernel_rfl)
instance : OneCell Tryd.prog 66 := OneCell.mk1 (by kernel_rfl)
instance : SizeIs Tryd.prog 66 1 := SizeIs.mk1 (by kernel_rfl)
instance : OneCell Tryd.prog 67 := OneCell.mk1 (by kernel_rfl)
instance : SizeIs Tryd.prog 67 1 := SizeIs.mk1 (by kernel_rfl)
instance : OneCell Tryd.prog 68 := OneCell.mk1 (by kernel_rfl)
instance : SizeIs Tryd.prog 68 1 := SizeIs.mk1 (by kernel_rfl)
instance : OneCell Tryd.prog 69 := OneCell.mk1 (by kernel_rfl)
instance : SizeIs Tryd.prog 69 1 := SizeIs.mk1 (by kernel_rfl)
-- 70: struct { size int; bits int; masked bool; extra bool }
instance : SizeIs Tryd.prog 70 4 := SizeIs.mk1 (by kernel_rfl)
instance : BytesIs Tryd.prog 70 24 := BytesIs.mk1 (by kernel_rfl)
instance : ZeroIs Tryd.prog 70 (.agg #[.int .i64 0, .int .i64 0, .bool false, .bool false]) := ZeroIs.mk1 (by kernel_rfl)
instance : ManyCells Tryd.prog 70 4 := ManyCells.mk1 (by kernel_rfl) (by kernel_rfl)
instance : StructIs Tryd.prog 70 [(0, 1), (1, 1), (2, 1), (3, 1)] [.int .i64 0, .int .i64 0, .bool false, .bool false] := StructIs.mk1 (by kernel_rfl)
instance : FieldIs Tryd.prog 70 0 0 := FieldIs.mk1 (by kernel_rfl)
instance : FieldIs Tryd.prog 70 1 1 := FieldIs.mk1 (by kernel_rfl)
instance : FieldIs Tryd.prog 70 2 2 := FieldIs.mk1 (by kernel_rfl)
instance : FieldIs Tryd.prog 70 3 3 := FieldIs.mk1 (by kernel_rfl)
-- 71: oxm.shape gunwale/oxm.shape
instance : SizeIs Tryd.prog 71 4 := SizeIs.mk1 (by kernel_rfl)
instance : BytesIs Tryd.prog 71 24 := BytesIs.mk1 (by kernel_rfl)
instance : ZeroIs Tryd.prog 71 (.agg #[.int .i64 0, .int .i64 0, .bool false, .bool false]) := ZeroIs.mk1 (by kernel_rfl)
instance : ManyCells Tryd.prog 71 4 := ManyCells.mk1 (by kernel_rfl) (by kernel_rfl)
instance : StructIs Tryd.prog 71 [(0, 1), (1, 1), (2, 1), (3, 1)] [.int .i64 0, .int .i64 0, .bool false, .bool false] := StructIs.mk1 (by kernel_rfl)
instance : FieldIs Tryd.prog 71 0 0 := FieldIs.mk1 (by kernel_rfl)
instance : FieldIs Tryd.prog 71 1 1 := FieldIs.mk1 (by kernel_rfl)
instance : FieldIs Tryd.prog 71 2 2 := FieldIs.mk1 (by kernel_rfl)
instance : FieldIs Tryd.prog 71 3 3 := FieldIs.mk1 (by kernel_rfl)
instance : OneCell Tryd.prog 73 := OneCell.mk1 (by kernel_rfl)
instance : SizeIs Tryd.prog 73 1 := SizeIs.mk1 (by kernel_rfl)
-- 74: uint
instance : Under Tryd.prog 74 (.int .u64) := ⟨by kernel_rfl⟩
instance : SizeIs Tryd.prog 74 1 := SizeIs.mk1 (by kernel_rfl)
instance : BytesIs Tryd.prog 74 8 := BytesIs.mk1 (by kernel_rfl)
instance : ZeroIs Tryd.prog 74 (.int .u64 0) := ZeroIs.mk1 (by kernel_rfl)
instance : OneCell Tryd.prog 74 := OneCell.mk1 (by kernel_rfl)
instance : OneCell Tryd.prog 75 := OneCell.mk1 (by kernel_rfl)
instance : SizeIs Tryd.prog 75 1 := SizeIs.mk1 (by kernel_rfl)
instance : OneCell Tryd.prog 76 := OneCell.mk1 (by kernel_rfl)
instance : SizeIs Tryd.prog 76 1 := SizeIs.mk1 (by kernel_rfl)
instance : OneCell Tryd.prog 77 := OneCell.mk1 (by kernel_rfl)
instance : SizeIs Tryd.prog 77 1 := SizeIs.mk1 (by kernel_rfl)
instance : OneCell Tryd.prog 78 := OneCell.mk1 (by kernel_rfl)
instance : SizeIs Tryd.prog 78 1 := SizeIs.mk1 (by kernel_rfl)
instance : OneCell Tryd.prog 79 := OneCell.mk1 (by kernel_rfl)
instance : SizeIs Tryd.prog 79 1 := SizeIs.mk1 (by kernel_rfl)
instance : OneCell Tryd.prog 80 := OneCell.mk1 (by kernel_rfl)
instance : SizeIs Tryd.prog 80 1 := SizeIs.mk1 (by kernel_rfl)
instance : OneCell Tryd.prog 81 := OneCell.mk1 (by kernel_rfl)
instance : SizeIs Tryd.prog 81 1 := SizeIs.mk1 (by kernel_rfl)
instance : OneCell Tryd.prog 82 := OneCell.mk1 (by kernel_rfl)
instance : SizeIs Tryd.prog 82 1 := SizeIs.mk1 (by kernel_rfl)
instance : OneCell Tryd.prog 83 := OneCell.mk1 (by kernel_rfl)
instance : SizeIs Tryd.prog 83 1 := SizeIs.mk1 (by kernel_rfl)
instance : OneCell Tryd.prog 84 := OneCell.mk1 (by kernel_rfl)
instance : SizeIs Tryd.prog 84 1 := SizeIs.mk1 (by kernel_rfl)
instance : OneCell Tryd.prog 85 := OneCell.mk1 (by kernel_rfl)
instance : SizeIs Tryd.prog 85 1 := SizeIs.mk1 (by kernel_rfl)
instance : OneCell Tryd.prog 86 := OneCell.mk1 (by kernel_rfl)
instance : SizeIs Tryd.prog 86 1 := SizeIs.mk1 (by kernel_rfl)
instance : OneCell Tryd.prog 87 := OneCell.mk1 (by kernel_rfl)
instance : SizeIs Tryd.prog 87 1 := SizeIs.mk1 (by kernel_rfl)
-- 88: []uint64
instance : Under Tryd.prog 88 (.slice 36) := ⟨by kernel_rfl⟩
instance : SizeIs Tryd.prog 88 1 := SizeIs.mk1 (by kernel_rfl)
instance : BytesIs Tryd.prog 88 24 := BytesIs.mk1 (by kernel_rfl)
instance : ZeroIs Tryd.prog 88 (.slice none 0 0) := ZeroIs.mk1 (by kernel_rfl)
instance : OneCell Tryd.prog 88 := OneCell.mk1 (by kernel_rfl)
-- 89: struct { Bits int; Size int; Masked bool; Need int; Values []uint64 }
instance : SizeIs Tryd.prog 89 5 := SizeIs.mk1 (by kernel_rfl)
instance : BytesIs Tryd.prog 89 56 := BytesIs.mk1 (by kernel_rfl)
instance : ZeroIs Tryd.prog 89 (.agg #[.int .i64 0, .int .i64 0, .bool false, .int .i64 0, .slice none 0 0]) := ZeroIs.mk1 (by kernel_rfl)
instance : ManyCells Tryd.prog 89 5 := ManyCells.mk1 (by kernel_rfl) (by kernel_rfl)
instance : StructIs Tryd.prog 89 [(0, 1), (1, 1), (2, 1), (3, 1), (4, 1)] [.int .i64 0, .int .i64 0, .bool false, .int .i64 0, .slice none 0 0] := StructIs.mk1 (by kernel_rfl)
instance : FieldIs Tryd.prog 89 0 0 := FieldIs.mk1 (by kernel_rfl)
instance : FieldIs Tryd.prog 89 1 1 := FieldIs.mk1 (by kernel_rfl)
instance : FieldIs Tryd.prog 89 2 2 := FieldIs.mk1 (by kernel_rfl)
instance : FieldIs Tryd.prog 89 3 3 := FieldIs.mk1 (by kernel_rfl)
instance : FieldIs Tryd.prog 89 4 4 := FieldIs.mk1 (by kernel_rfl)
-- 90: field.Field gunwale/field.Field
instance : SizeIs Tryd.prog 90 5 := SizeIs.mk1 (by kernel_rfl)
instance : BytesIs Tryd.prog 90 56 := BytesIs.mk1 (by kernel_rfl)
instance : ZeroIs Tryd.prog 90 (.agg #[.int .i64 0, .int .i64 0, .bool false, .int .i64 0, .slice none 0 0]) := ZeroIs.mk1 (by kernel_rfl)
instance : ManyCells Tryd.prog 90 5 := ManyCells.mk1 (by kernel_rfl) (by kernel_rfl)
instance : StructIs Tryd.prog 90 [(0, 1), (1, 1), (2, 1), (3, 1), (4, 1)] [.int .i64 0, .int .i64 0, .bool false, .int .i64 0, .slice none 0 0] := StructIs.mk1 (by kernel_rfl)
instance : FieldIs Tryd.prog 90 0 0 := FieldIs.mk1 (by kernel_rfl)
instance : FieldIs Tryd.prog 90 1 1 := FieldIs.mk1 (by kernel_rfl)
instance : FieldIs Tryd.prog 90 2 2 := FieldIs.mk1 (by kernel_rfl)
instance : FieldIs Tryd.prog 90 3 3 := FieldIs.mk1 (by kernel_rfl)
instance : FieldIs Tryd.prog 90 4 4 := FieldIs.mk1 (by kernel_rfl)
instance : OneCell Tryd.prog 92 := OneCell.mk1 (by kernel_rfl)
instance : SizeIs Tryd.prog 92 1 := SizeIs.mk1 (by kernel_rfl)
instance : OneCell Tryd.prog 93 := OneCell.mk1 (by kernel_rfl)
instance : SizeIs Tryd.prog 93 1 := SizeIs.mk1 (by kernel_rfl)
instance : OneCell Tryd.prog 94 := OneCell.mk1 (by kernel_rfl)
instance : SizeIs Tryd.prog 94 1 := SizeIs.mk1 (by kernel_rfl)
instance : OneCell Tryd.prog 95 := OneCell.mk1 (by kernel_rfl)
instance : SizeIs Tryd.prog 95 1 := SizeIs.mk1 (by kernel_rfl)
instance : OneCell Tryd.prog 96 := OneCell.mk1 (by kernel_rfl)
instance : SizeIs Tryd.prog 96 1 := SizeIs.mk1 (by kernel_rfl)
instance : OneCell Tryd.prog 97 := OneCell.mk1 (by kernel_rfl)
instance : SizeIs Tryd.prog 97 1 := SizeIs.mk1 (by kernel_rfl)
-- 98: []int
instance : Under Tryd.prog 98 (.slice 3) := ⟨by kernel_rfl⟩
instance : SizeIs Tryd.prog 98 1 := SizeIs.mk1 (by kernel_rfl)
instance : BytesIs Tryd.prog 98 24 := BytesIs.mk1 (by kernel_rfl)
instance : ZeroIs Tryd.prog 98 (.slice none 0 0) := ZeroIs.mk1 (by kernel_rfl)
instance : OneCell Tryd.prog 98 := OneCell.mk1 (by kernel_rfl)
instance : OneCell Tryd.prog 99 := OneCell.mk1 (by kernel_rfl)
instance : SizeIs Tryd.prog 99 1 := SizeIs.mk1 (by kernel_rfl)
instance : OneCell Tryd.prog 101 := OneCell.mk1 (by kernel_rfl)
instance : SizeIs Tryd.prog 101 1 := SizeIs.mk1 (by kernel_rfl)
instance : OneCell Tryd.prog 102 := OneCell.mk1 (by kernel_rfl)
instance : SizeIs Tryd.prog 102 1 := SizeIs.mk1 (by kernel_rfl)
instance : OneCell Tryd.prog 104 := OneCell.mk1 (by kernel_rfl)
instance : SizeIs Tryd.prog 104 1 := SizeIs.mk1 (by kernel_rfl)
instance : OneCell Tryd.prog 105 := OneCell.mk1 (by kernel_rfl)
instance : SizeIs Tryd.prog 105 1 := SizeIs.mk1 (by kernel_rfl)
instance : OneCell Tryd.prog 107 := OneCell.mk1 (by kernel_rfl)
instance : SizeIs Tryd.prog 107 1 := SizeIs.mk1 (by kernel_rfl)
instance : OneCell Tryd.prog 108 := OneCell.mk1 (by kernel_rfl)
instance : SizeIs Tryd.prog 108 1 := SizeIs.mk1 (by kernel_rfl)
instance : OneCell Tryd.prog 109 := OneCell.mk1 (by kernel_rfl)
instance : SizeIs Tryd.prog 109 1 := SizeIs.mk1 (by kernel_rfl)
instance : OneCell Tryd.prog 110 := OneCell.mk1 (by kernel_rfl)
instance : SizeIs Tryd.prog 110 1 := SizeIs.mk1 (by kernel_rfl)
instance : OneCell Tryd.prog 112 := OneCell.mk1 (by kernel_rfl)
instance : SizeIs Tryd.prog 112 1 := SizeIs.mk1 (by kernel_rfl)
instance : OneCell Tryd.prog 113 := OneCell.mk1 (by kernel_rfl)
instance : SizeIs Tryd.prog 113 1 := SizeIs.mk1 (by kernel_rfl)
instance : OneCell Tryd.prog 114 := OneCell.mk1 (by kernel_rfl)
instance : SizeIs Tryd.prog 114 1 := SizeIs.mk1 (by kernel_rfl)
instance : OneCell Tryd.prog 115 := OneCell.mk1 (by kernel_rfl)
instance : SizeIs Tryd.prog 115 1 := SizeIs.mk1 (by kernel_rfl)
instance : OneCell Tryd.prog 116 := OneCell.mk1 (by kernel_rfl)
instance : SizeIs Tryd.prog 116 1 := SizeIs.mk1 (by kernel_rfl)
instance : OneCell Tryd.prog 117 := OneCell.mk1 (by kernel_rfl)
instance : SizeIs Tryd.prog 117 1 := SizeIs.mk1 (by kernel_rfl)
instance : OneCell Tryd.prog 118 := OneCell.mk1 (by kernel_rfl)
instance : SizeIs Tryd.prog 118 1 := SizeIs.mk1 (by kernel_rfl)
-- 119: [40]int
instance : SizeIs Tryd.prog 119 40 := SizeIs.mk1 (by kernel_rfl)
instance : BytesIs Tryd.prog 119 320 := BytesIs.mk1 (by kernel_rfl)
instance : ZeroIs Tryd.prog 119 (.agg #[.int .i64 0, .int .i64 0, .int .i64 0, .int .i64 0, .int .i64 0, .int .i64 0, .int .i64 0, .int .i64 0, .int .i64 0, .int .i64 0, .int .i64 0, .int .i64 0, .int .i64 0, .int .i64 0, .int .i64 0, .int .i64 0, .int .i64 0, .int .i64 0, .int .i64 0, .int .i64 0, .int .i64 0, .int .i64 0, .int .i64 0, .int .i64 0, .int .i64 0, .int .i64 0, .int .i64 0, .int .i64 0, .int .i64 0, .int .i64 0, .int .i64 0, .int .i64 0, .int .i64 0, .int .i64 0, .int .i64 0, .int .i64 0, .int .i64 0, .int .i64 0, .int .i64 0, .int .i64 0]) := ZeroIs.mk1 (by kernel_rfl)
instance : ManyCells Tryd.prog 119 40 := ManyCells.mk1 (by kernel_rfl) (by kernel_rfl)
instance : ArrayIs Tryd.prog 119 40 3 := ⟨by kernel_rfl⟩
instance : OneCell Tryd.prog 120 := OneCell.mk1 (by kernel_rfl)
instance : SizeIs Tryd.prog 120 1 := SizeIs.mk1 (by kernel_rfl)
-- 121: [256]bool
instance : SizeIs Tryd.prog 121 256 := SizeIs.mk1 (by kernel_rfl)
instance : BytesIs Tryd.prog 121 256 := BytesIs.mk1 (by kernel_rfl)
instance : ManyCells Tryd.prog 121 256 := ManyCells.mk1 (by kernel_rfl) (by kernel_rfl)
instance : ArrayIs Tryd.prog 121 256 4 := ⟨by kernel_rfl⟩
-- 122: bytes.asciiSet bytes.asciiSet
instance : SizeIs Tryd.prog 122 256 := SizeIs.mk1 (by kernel_rfl)
instance : BytesIs Tryd.prog 122 256 := BytesIs.mk1 (by kernel_rfl)
instance : ManyCells Tryd.prog 122 256 := ManyCells.mk1 (by kernel_rfl) (by kernel_rfl)
instance : ArrayIs Tryd.prog 122 256 4 := ⟨by kernel_rfl⟩
instance : OneCell Tryd.prog 124 := OneCell.mk1 (by kernel_rfl)
instance : SizeIs Tryd.prog 124 1 := SizeIs.mk1 (by kernel_rfl)
instance : OneCell Tryd.prog 125 := OneCell.mk1 (by kernel_rfl)
instance : SizeIs Tryd.prog 125 1 := SizeIs.mk1 (by kernel_rfl)
-- 126: *bytes.asciiSet
instance : Under Tryd.prog 126 (.pointer 122) := ⟨by kernel_rfl⟩
instance : SizeIs Tryd.prog 126 1 := SizeIs.mk1 (by kernel_rfl)
instance : BytesIs Tryd.prog 126 8 := BytesIs.mk1 (by kernel_rfl)
instance : ZeroIs Tryd.prog 126 (.pointer none) := ZeroIs.mk1 (by kernel_rfl)
instance : OneCell Tryd.prog 126 := OneCell.mk1 (by kernel_rfl)
instance : OneCell Tryd.prog 127 := OneCell.mk1 (by kernel_rfl)
instance : SizeIs Tryd.prog 127 1 := SizeIs.mk1 (by kernel_rfl)
instance : OneCell Tryd.prog 128 := OneCell.mk1 (by kernel_rfl)
instance : SizeIs Tryd.prog 128 1 := SizeIs.mk1 (by kernel_rfl)
instance : OneCell Tryd.prog 130 := OneCell.mk1 (by kernel_rfl)
instance : SizeIs Tryd.prog 130 1 := SizeIs.mk1 (by kernel_rfl)
instance : OneCell Tryd.prog 131 := OneCell.mk1 (by kernel_rfl)
instance : SizeIs Tryd.prog 131 1 := SizeIs.mk1 (by kernel_rfl)
-- 132: [256]uint8
instance : SizeIs Tryd.prog 132 256 := SizeIs.mk1 (by kernel_rfl)
instance : BytesIs Tryd.prog 132 256 := BytesIs.mk1 (by kernel_rfl)
instance : ManyCells Tryd.prog 132 256 := ManyCells.mk1 (by kernel_rfl) (by kernel_rfl)
instance : ArrayIs Tryd.prog 132 256 5 := ⟨by kernel_rfl⟩
-- 133: struct { lo uint8; hi uint8 }
instance : SizeIs Tryd.prog 133 2 := SizeIs.mk1 (by kernel_rfl)
instance : BytesIs Tryd.prog 133 2 := BytesIs.mk1 (by kernel_rfl)
instance : ZeroIs Tryd.prog 133 (.agg #[.int .u8 0, .int .u8 0]) := ZeroIs.mk1 (by kernel_rfl)
instance : ManyCells Tryd.prog 133 2 := ManyCells.mk1 (by kernel_rfl) (by kernel_rfl)
instance : StructIs Tryd.prog 133 [(0, 1), (1, 1)] [.int .u8 0, .int .u8 0] := StructIs.mk1 (by kernel_rfl)
instance : FieldIs Tryd.prog 133 0 0 := FieldIs.mk1 (by kernel_rfl)
instance : FieldIs Tryd.prog 133 1 1 := FieldIs.mk1 (by kernel_rfl)
-- 135: [16]utf8.acceptRange
instance : SizeIs Tryd.prog 135 32 := SizeIs.mk1 (by kernel_rfl)
instance : BytesIs Tryd.prog 135 32 := BytesIs.mk1 (by kernel_rfl)
instance : ZeroIs Tryd.prog 135 (.agg #[.int .u8 0, .int .u8 0, .int .u8 0, .int .u8 0, .int .u8 0, .int .u8 0, .int .u8 0, .int .u8 0, .int .u8 0, .int .u8 0, .int .u8 0, .int .u8 0, .int .u8 0, .int .u8 0, .int .u8 0, .int .u8 0, .int .u8 0, .int .u8 0, .int .u8 0, .int .u8 0, .int .u8 0, .int .u8 0, .int .u8 0, .int .u8 0, .int .u8 0, .int .u8 0, .int .u8 0, .int .u8 0, .int .u8 0, .int .u8 0, .int .u8 0, .int .u8 0]) := ZeroIs.mk1 (by kernel_rfl)
instance : ManyCells Tryd.prog 135 32 := ManyCells.mk1 (by kernel_rfl) (by kernel_rfl)
instance : ArrayIs Tryd.prog 135 16 134 := ⟨by kernel_rfl⟩
instance : OneCell Tryd.prog 136 := OneCell.mk1 (by kernel_rfl)
instance : SizeIs Tryd.prog 136 1 := SizeIs.mk1 (by kernel_rfl)
instance : OneCell Tryd.prog 142 := OneCell.mk1 (by kernel_rfl)
instance : SizeIs Tryd.prog 142 1 := SizeIs.mk1 (by kernel_rfl)
-- 143: uint32
instance : Under Tryd.prog 143 (.int .u32) := ⟨by kernel_rfl⟩
instance : SizeIs Tryd.prog 143 1 := SizeIs.mk1 (by kernel_rfl)
instance : BytesIs Tryd.prog 143 4 := BytesIs.mk1 (by kernel_rfl)
instance : ZeroIs Tryd.prog 143 (.int .u32 0) := ZeroIs.mk1 (by kernel_rfl)
instance : OneCell Tryd.prog 143 := OneCell.mk1 (by kernel_rfl)
-- 147: *uint8
instance : Under Tryd.prog 147 (.pointer 5) := ⟨by kernel_rfl⟩
instance : SizeIs Tryd.prog 147 1 := SizeIs.mk1 (by kernel_rfl)
instance : BytesIs Tryd.prog 147 8 := BytesIs.mk1 (by kernel_rfl)
instance : ZeroIs Tryd.prog 147 (.pointer none) := ZeroIs.mk1 (by kernel_rfl)
instance : OneCell Tryd.prog 147 := OneCell.mk1 (by kernel_rfl)
end Go.Proofs.YtcckofgleghbgaaDoor.Sx
