/- Text of package frac, and awake: what a call returns. -/
import Derived.Test.YtbdihcpehadbjaaDoorFh
import Derived.Test.YtbdihcpehadbjaaDoorShelfI
import Derived.Lib.ItoaLen
namespace Go.Proofs.YtbdihcpehadbjaaDoor
open Go.RowKit

/-- the table that strconv reads -/
def Tb (w : World) : Prop := Lib.TabIs Tryd.prog w "internal/strconv.uint64pow10" .u64 Lib.pow10Tab
theorem gPow : Tryd.prog.globalNamed "internal/strconv.uint64pow10" = some 3 := by kernel_rfl
theorem Tb.below {w w' : World} (h : Tb w) (hb : Below w.heap.size w w') : Tb w' := by
  refine var?_below hb gPow ?_ h
  have h' := h
  unfold Tb Lib.TabIs World.var? at h'
  rw [gPow] at h'
  rcases Nat.lt_or_ge 3 w.heap.size with h2 | h2
  · exact h2
  · simp [Array.getElem?_eq_none h2] at h'
theorem below_grow_drewN (w : World) (k : Nat) (os : Array Obj) : Below w.heap.size w (Sort.grow (w.drewN k) os) := by
  refine ⟨rfl, rfl, rfl, ?_, fun i hi => ?_⟩
  · show w.heap.size ≤ (w.heap ++ os).size
    simp
  · show (w.heap ++ os)[i]? = w.heap[i]?
    rw [Array.getElem?_append_left hi]

theorem itoa_any (n : Int) (w : World) (h0 : -9223372036854775808 ≤ n) (h1 : n ≤ 9223372036854775807) (ht : Tb w) :
    Calls Tryd.prog 48 #[.int .i64 n] w fun e w' => e = .returned (.string ⟨(Lib.itoa n).toArray⟩) ∧ Below w.heap.size w w' :=
  (Tryd.strconv_Itoa n h0 h1 w ht).mono fun e w' ⟨h1, k, os, h2⟩ => ⟨h1, by rw [h2]; exact below_grow_drewN w k os⟩

/-- the text of a fraction -/
def textv (n d : Int) : List UInt8 := if d = 1 then Lib.itoa n else Lib.itoa n ++ (47 :: Lib.itoa d)

theorem bytes_cat (a b : List UInt8) : (⟨a.toArray⟩ : ByteArray) ++ (⟨b.toArray⟩ : ByteArray) = ⟨(a ++ b).toArray⟩ := by
  apply ByteArray.ext; simp

theorem ret_si {a b : ByteArray} {k : Int} (h : a = b) : Ending.returned (.tuple #[.string a, .int .i64 k]) = .returned (.tuple #[.string b, .int .i64 k]) := by rw [h]

set_option maxHeartbeats 800000 in
theorem text_ok (n d : Int) (w : World) (hv : vldB n d = true) (ht : Tb w) :
    Calls Tryd.prog 37 #[.agg #[.int .i64 n, .int .i64 d]] w fun e w' => e = .returned (.tuple #[.string ⟨(textv n d).toArray⟩, .int .i64 0]) ∧ Below w.heap.size w w' := by
  obtain ⟨p1, p2, p3, p4, p5⟩ := vldB_parts hv
  clear p5
  by_cases hd : d = 1
  · have hdb : (d != 1) = false := by simp [hd]
    have HT := Lib.hid (show textv n d = Lib.itoa n by unfold textv; rw [if_pos hd])
    clear hd
    go_enter Tryd.func37, Tryd.ntmps37
    go_wp2_with fail
    ((with_reducible refine (valid1_any _ _ _ (by omega) (by omega) (by omega) (by omega)).mono ?_); rintro e w1 ⟨rfl, hb1⟩)
    obtain ⟨hc, hf⟩ := bcell hb1
    have hb2 : Below w.heap.size w w1 := ((Below.refl _ _).alloc (Nat.le_refl _) _).trans (hb1.mono (by simp))
    go_wp2_with fail
    ((with_reducible refine (itoa_any _ _ (by omega) (by omega) (ht.below hb2)).mono ?_); rintro e w3 ⟨rfl, hb3⟩)
    have hc3 : ∀ b o, b < w1.heap.size → w3.cell? ⟨b, o, none⟩ = w1.cell? ⟨b, o, none⟩ := (bcell hb3).1
    have hz : w.heap.size < w1.heap.size := by have := hb1.size; simp at this; omega
    go_wp2_with fail
    go_ret2
    exact ⟨ret_si (by rw [HT.out]), hb2.trans (hb3.mono hb2.size)⟩
  · have hdb : (d != 1) = true := by simp [hd]
    have HT := Lib.hid (show textv n d = Lib.itoa n ++ (47 :: Lib.itoa d) by unfold textv; rw [if_neg hd])
    clear hd
    go_enter Tryd.func37, Tryd.ntmps37
    go_wp2_with fail
    ((with_reducible refine (valid1_any _ _ _ (by omega) (by omega) (by omega) (by omega)).mono ?_); rintro e w1 ⟨rfl, hb1⟩)
    obtain ⟨hc, hf⟩ := bcell hb1
    have hb2 : Below w.heap.size w w1 := ((Below.refl _ _).alloc (Nat.le_refl _) _).trans (hb1.mono (by simp))
    go_wp2_with fail
    ((with_reducible refine (itoa_any _ _ (by omega) (by omega) (ht.below hb2)).mono ?_); rintro e w3 ⟨rfl, hb3⟩)
    have hc3 : ∀ b o, b < w1.heap.size → w3.cell? ⟨b, o, none⟩ = w1.cell? ⟨b, o, none⟩ := (bcell hb3).1
    have hz : w.heap.size < w1.heap.size := by have := hb1.size; simp at this; omega
    have hb4 : Below w.heap.size w w3 := hb2.trans (hb3.mono hb2.size)
    have ln := Lib.itoa_length_le n (by omega) (by omega)
    have ld := Lib.itoa_length_le d (by omega) (by omega)
    generalize Lib.itoa n = tn at *
    go_wp2_with fail
    ((with_reducible refine (itoa_any _ _ (by omega) (by omega) (ht.below hb4)).mono ?_); rintro e w5 ⟨rfl, hb5⟩)
    generalize Lib.itoa d = td at *
    go_wp2_with fail
    go_ret2
    refine ⟨ret_si (b := ⟨(textv n d).toArray⟩) ?_, hb4.trans (hb5.mono hb4.size)⟩
    rw [HT.out]
    rw [show (⟨#[47]⟩ : ByteArray) = ⟨([47] : List UInt8).toArray⟩ from rfl, bytes_cat, bytes_cat]
    rfl

set_option maxHeartbeats 800000 in
theorem text_bad (n d : Int) (w : World) (hi : i64p (n, d)) (hv : vldB n d = false) :
    Calls Tryd.prog 37 #[.agg #[.int .i64 n, .int .i64 d]] w fun e w' => e = .returned (.tuple #[.string ⟨#[]⟩, .int .i64 1]) ∧ Below w.heap.size w w' := by
  obtain ⟨i1, i2, i3, i4⟩ := hi
  go_enter Tryd.func37, Tryd.ntmps37
  go_wp2_with fail
  ((with_reducible refine (valid1_any _ _ _ i1 i2 i3 i4).mono ?_); rintro e w1 ⟨rfl, hb1⟩)
  go_wp2_with fail
  go_ret2
  exact ⟨rfl, ((Below.refl _ _).alloc (Nat.le_refl _) _).trans (hb1.mono (by simp))⟩

theorem k_make1 : mkv 6 (-4) = (-3, 2, 0) := by decide +kernel
theorem k_make2 : mkv 1 1073741825 = (0, 0, 6) := by decide +kernel
theorem k_valid : vldB (-3) 2 = true := by decide +kernel
theorem k_add : addv 1 2 1 3 = (5, 6, 0) := by decide +kernel
theorem k_text : textv (-3) 2 = [45, 51, 47, 50] := by
  unfold textv
  rw [if_neg (by decide), show (-3 : Int) = -((3 : Nat) : Int) from rfl, Lib.itoa_neg 3 (by decide), show (2 : Int) = ((2 : Nat) : Int) from rfl, Lib.itoa_nonneg, Lib.decDigits_one (by decide), Lib.decDigits_one (by decide)]
  rfl

/-- a fraction lies in a block -/
def Bx (w : World) (B : Nat) (n d : Int) : Prop := B < w.heap.size ∧ w.cell? ⟨B, 0, none⟩ = some (.int .i64 n) ∧ w.cell? ⟨B, 1, none⟩ = some (.int .i64 d)
theorem Bx.below {w w' : World} {B : Nat} {n d : Int} (h : Bx w B n d) (hb : Below w.heap.size w w') : Bx w' B n d :=
  ⟨Nat.lt_of_lt_of_le h.1 hb.size, by rw [hb.cell (p := ⟨B, 0, none⟩) h.1]; exact h.2.1, by rw [hb.cell (p := ⟨B, 1, none⟩) h.1]; exact h.2.2⟩
theorem Bx.new (w : World) (n d : Int) : Bx (w.alloc (.cells #[.int .i64 n, .int .i64 d] 24)) w.heap.size n d := ⟨by simp, by simp, by simp⟩
theorem Bx.alloc {w : World} {B : Nat} {n d : Int} (h : Bx w B n d) (o : Obj) : Bx (w.alloc o) B n d := h.below ((Below.refl _ _).alloc (Nat.le_refl _) _)
theorem below_alloc (w : World) (o : Obj) : Below w.heap.size w (w.alloc o) := (Below.refl _ _).alloc (Nat.le_refl _) _
theorem below_then {w w1 w2 : World} (h : Below w.heap.size w w1) (h2 : Below w1.heap.size w1 w2) : Below w.heap.size w w2 := h.trans (h2.mono h.size)

set_option maxHeartbeats 1600000 in
theorem awake_any (w : World) (ht : Tb w) :
    Calls Tryd.prog 11 #[] w fun e w' => e = .returned (.bool true) ∧ Below w.heap.size w w' := by
  go_enter Tryd.func11, Tryd.ntmps11
  go_wp2_with fail
  ((with_reducible refine (make_any 6 (-4) _ (by decide) (by decide) (by decide) (by decide)).mono ?_); rintro e w1 ⟨rfl, hb1⟩)
  rw [k_make1]
  unfold ret3
  go_wp2_with fail
  ((with_reducible refine (floor_ok (-3) 2 _ k_valid).mono ?_); rintro e w2 ⟨rfl, hb2⟩)
  have hB2 := (Bx.new w1 (-3) 2).below hb2
  have hw2 := below_then (below_then hb1 (below_alloc w1 _)) hb2
  clear hb2
  have HB := Lib.hid hB2
  obtain ⟨z2, c20, c21⟩ := hB2
  rw [show ((-3 : Int) / 2) = -2 from by decide]
  go_wp2_with fail
  ((with_reducible refine (ceil_ok (-3) 2 _ k_valid).mono ?_); rintro e w3 ⟨rfl, hb3⟩)
  have hB3 := HB.out.below hb3
  have hw3 := below_then hw2 hb3
  clear hb3 z2 c20 c21 HB hw2
  have HB := Lib.hid hB3
  obtain ⟨z2, c20, c21⟩ := hB3
  rw [show (-(-(-3 : Int) / 2)) = -1 from by decide]
  go_wp2_with fail
  ((with_reducible refine (text_ok (-3) 2 _ k_valid (ht.below hw3)).mono ?_); rintro e w4 ⟨rfl, hb4⟩)
  have hB4 := HB.out.below hb4
  have hw4 := below_then hw3 hb4
  clear hb4 z2 c20 c21 HB hw3
  have HB := Lib.hid hB4
  obtain ⟨z2, c20, c21⟩ := hB4
  rw [k_text]
  go_wp2_with fail
  ((with_reducible refine (add_any 1 2 1 3 _ (by unfold i64p; decide) (by unfold i64p; decide)).mono ?_); rintro e w5 ⟨rfl, hb5⟩)
  have hB5 := HB.out.below hb5
  have hw5 := below_then hw4 hb5
  clear hb5 z2 c20 c21 HB hw4
  have HB := Lib.hid hB5
  obtain ⟨z2, c20, c21⟩ := hB5
  rw [k_add]
  unfold ret3
  go_wp2_with fail
  ((with_reducible refine (make_any 1 1073741825 _ (by decide) (by decide) (by decide) (by decide)).mono ?_); rintro e w6 ⟨rfl, hb6⟩)
  have hB6 := (HB.out.alloc _).below hb6
  have hA6 := (Bx.new w5 5 6).below hb6
  have hw6 := below_then (below_then hw5 (below_alloc w5 _)) hb6
  clear hb6 z2 c20 c21 HB hw5
  obtain ⟨z2, c20, c21⟩ := hB6
  obtain ⟨y2, a20, a21⟩ := hA6
  rw [k_make2]
  unfold ret3
  go_wp2_with fail
  go_ret
  exact ⟨rfl, hw6.alloc hw6.size _⟩
end Go.Proofs.YtbdihcpehadbjaaDoor
