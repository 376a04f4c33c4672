/- letter, digit of package token and of the reference: what a call returns. -/
import Derived.Test.YtbbdgncjpbfooaaGreatDoorProg
import Derived.Test.YtbbdgncjpbfooaaGreatDoorKa
import Derived.WalkKit
import Derived.WalkSpells
import Derived.WalkLawsBesides
import Derived.Deep.QuietTactic
import Derived.BigQuiet
import Derived.Lib.Hide
import Derived.Lib.BufferOwn
import Derived.Outline
namespace Go.Proofs.YtbbdgncjpbfooaaGreatDoor
open Go.RowKit

theorem ret_int {k : IntKind} {a b : Int} (h : a = b) : Ending.returned (.int k a) = .returned (.int k b) := by rw [h]
theorem ret_bool {a b : Bool} (h : a = b) : Ending.returned (.bool a) = .returned (.bool b) := by rw [h]
theorem ret_str {a b : ByteArray} (h : a = b) : Ending.returned (.string a) = .returned (.string b) := by rw [h]
theorem bcell {W w1 : World} (hb : Below W.heap.size W w1) : (∀ b o, b < W.heap.size → w1.cell? ⟨b, o, none⟩ = W.cell? ⟨b, o, none⟩) ∧ (∀ b o, b < W.heap.size → w1.frozen? ⟨b, o, none⟩ = W.frozen? ⟨b, o, none⟩) :=
  ⟨fun b o h => hb.cell (p := ⟨b, o, none⟩) h, fun b o h => hb.frozen (p := ⟨b, o, none⟩) h⟩
theorem below_alloc (w : World) (o : Obj) : Below w.heap.size w (w.alloc o) := (Below.refl _ _).alloc (Nat.le_refl _) o
theorem below_then {a b c : World} (h : Below a.heap.size a b) (k : Below b.heap.size b c) : Below a.heap.size a c := h.trans (k.mono h.size)
theorem bytes_cat (a b : List UInt8) : (⟨a.toArray⟩ : ByteArray) ++ (⟨b.toArray⟩ : ByteArray) = ⟨(a ++ b).toArray⟩ := by
  apply ByteArray.ext; simp
theorem at_byte (s : ByteArray) (k : Nat) (h : k < s.size) : s.data.toList[k]? = some s[k] := by
  rw [List.getElem?_eq_getElem (by simpa using h)]; rfl
theorem get_byte (s : ByteArray) (k : Nat) (h : k < s.size) : s.data.toList[k]'(by simpa using h) = s[k] := rfl
theorem drop_byte (s : ByteArray) (k : Nat) (h : k < s.size) : s.data.toList.drop k = s[k] :: s.data.toList.drop (k + 1) := by
  rw [List.drop_eq_getElem_cons (by simpa using h)]; rfl
theorem take_byte (s : ByteArray) (k : Nat) (h : k < s.size) : s.data.toList.take (k + 1) = s.data.toList.take k ++ [s[k]] := by
  rw [List.take_succ_eq_append_getElem (by simpa using h)]; rfl
theorem len_byte (s : ByteArray) : s.data.toList.length = s.size := by simp

/-- five stretches of a byte's numbers -/
theorem let_parts (c : UInt8) : (((c.toNat : Int) < 65) ∧ isLet c = false) ∨ ((65 ≤ (c.toNat : Int) ∧ (c.toNat : Int) ≤ 90) ∧ isLet c = true) ∨ ((90 < (c.toNat : Int) ∧ (c.toNat : Int) < 97) ∧ isLet c = false) ∨ ((97 ≤ (c.toNat : Int) ∧ (c.toNat : Int) ≤ 122) ∧ isLet c = true) ∨ ((122 < (c.toNat : Int)) ∧ isLet c = false) := by
  unfold isLet
  simp only [decide_eq_true_eq, decide_eq_false_iff_not]
  omega
theorem dig_parts (c : UInt8) : (((c.toNat : Int) < 48) ∧ isDig c = false) ∨ ((48 ≤ (c.toNat : Int) ∧ (c.toNat : Int) ≤ 57) ∧ isDig c = true) ∨ ((57 < (c.toNat : Int)) ∧ isDig c = false) := by
  unfold isDig
  simp only [decide_eq_true_eq, decide_eq_false_iff_not]
  omega

theorem nletter_any (c : UInt8) (w : World) : Calls Tryz.prog 80 #[.int .u8 (c.toNat : Int)] w fun e w' => e = .returned (.bool (isLet c)) ∧ w = w' := by
  rcases let_parts c with ⟨h, hv⟩ | ⟨⟨h, h'⟩, hv⟩ | ⟨⟨h, h'⟩, hv⟩ | ⟨⟨h, h'⟩, hv⟩ | ⟨h, hv⟩
  all_goals
    have HV := Lib.hid hv; clear hv
    go_enter Tryz.func80, Tryz.ntmps80
    go_wp2
    go_ret
    exact ⟨ret_bool (by have e := HV.out; first | exact e.symm | (rw [e]; simp; omega)), rfl⟩
theorem sletter_any (c : UInt8) (w : World) : Calls Tryz.prog 54 #[.int .u8 (c.toNat : Int)] w fun e w' => e = .returned (.bool (isLet c)) ∧ w = w' := by
  rcases let_parts c with ⟨h, hv⟩ | ⟨⟨h, h'⟩, hv⟩ | ⟨⟨h, h'⟩, hv⟩ | ⟨⟨h, h'⟩, hv⟩ | ⟨h, hv⟩
  all_goals
    have HV := Lib.hid hv; clear hv
    go_enter Tryz.func54, Tryz.ntmps54
    go_wp2
    go_ret
    exact ⟨ret_bool (by have e := HV.out; first | exact e.symm | (rw [e]; simp; omega)), rfl⟩
end Go.Proofs.YtbbdgncjpbfooaaGreatDoor
