/- Parse of the reference: what a call returns. -/
import Derived.Test.YtbdihcpehadbjaaDoorTb
import Derived.Lib.Strings
namespace Go.Proofs.YtbdihcpehadbjaaDoor
open Go.RowKit

/-- a stretch of digits from i on, as digits reads it -/
def Dg (l : List UInt8) (i j : Nat) : Prop := j ≤ 11 ∧ i + j ≤ l.length ∧ (∀ c ∈ (l.drop i).take j, isDig c = true) ∧ (i + j = l.length ∨ j = 11 ∨ ∃ c, l[i + j]? = some c ∧ isDig c = false)
/-- where the digits begin -/
def SgI (l : List UInt8) (i : Nat) : Prop := (i = 1 ∧ l[0]? = some 45) ∨ (i = 0 ∧ l[0]? ≠ some 45)
/-- a fraction lies in a block that may be written -/
def Bv (w : World) (B : Nat) (n d : Int) : Prop := Bx w B n d ∧ w.frozen? ⟨B, 0, none⟩ = false ∧ w.frozen? ⟨B, 1, none⟩ = false
theorem Bv.below {w w' : World} {B : Nat} {n d : Int} (h : Bv w B n d) (hb : Below w.heap.size w w') : Bv w' B n d :=
  ⟨h.1.below hb, by rw [hb.frozen (p := ⟨B, 0, none⟩) h.1.1]; exact h.2.1, by rw [hb.frozen (p := ⟨B, 1, none⟩) h.1.1]; exact h.2.2⟩
theorem Bv.new (w : World) (n d : Int) : Bv (w.alloc (.cells #[.int .i64 n, .int .i64 d] 24)) w.heap.size n d := ⟨Bx.new w n d, by simp, by simp⟩
/-- what Parse of the reference guesses before it looks -/
def Guess (l : List UInt8) (n d : Int) (k : Nat) : Prop :=
  ∃ i j : Nat, SgI l i ∧ Dg l i j ∧ n = (if i = 1 then -(dval ((l.drop i).take j) : Int) else (dval ((l.drop i).take j) : Int)) ∧
    ((l[i + j]? = some 47 ∧ ∃ j2, Dg l (i + j + 1) j2 ∧ d = (dval ((l.drop (i + j + 1)).take j2) : Int) ∧ k = i + j + 1 + j2) ∨ (l[i + j]? ≠ some 47 ∧ d = 1 ∧ k = i + j))
/-- a fraction and a bool, as a call returns them -/
def retb (n d : Int) (b : Bool) : Ending := .returned (.tuple #[.agg #[.int .i64 n, .int .i64 d], .bool b])
def RPost (l : List UInt8) (w : World) (e : Ending) (w' : World) : Prop :=
  ∃ (n d : Int) (k : Nat), Guess l n d k ∧ e = (if k = l.length ∧ vldB n d = true ∧ textv n d = l then retb n d true else retb 0 0 false) ∧ Below w.heap.size w w'
theorem Dg.lt {l : List UInt8} {i j : Nat} (h : Dg l i j) : dval ((l.drop i).take j) < 100000000000 :=
  Nat.lt_of_lt_of_le (dval_lt _ h.2.2.1) (Nat.le_trans (Nat.pow_le_pow_right (by omega) (Nat.le_trans (List.length_take_le _ _) h.1)) (by decide))
theorem digits_dg (s : ByteArray) (x : Int) (i : Nat) (w : World) (hs : s.size ≤ 9223372036854775000) (hi : i ≤ s.size) (hx : x = (i : Int)) :
    Calls Tryd.prog 47 #[.string s, .int .i64 x] w fun e w' => ∃ j, Dg s.data.toList i j ∧ e = .returned (.tuple #[.int .i64 (dval ((s.data.toList.drop i).take j)), .int .i64 (x + (j : Int))]) ∧ w = w' := by
  subst hx
  exact (digits_any s i w hs hi).mono fun _ _ ⟨j, h1, h2, h3, h4, h5, h6⟩ => ⟨j, ⟨h1, h2, h3, h4⟩, by rw [h5]; rfl, h6⟩
theorem ne_of_lists {a : List UInt8} {s : ByteArray} (h : a ≠ s.data.toList) : (⟨a.toArray⟩ : ByteArray) ≠ s := fun e => h (by rw [← e])
theorem eq_of_lists {a : List UInt8} {s : ByteArray} (h : a = s.data.toList) : (⟨a.toArray⟩ : ByteArray) = s := by subst h; rfl

theorem byte_of {c d : UInt8} (h : ((c.toNat : Int)) = ((d.toNat : Nat) : Int)) : c = d := by
  apply UInt8.toNat_inj.1; omega
theorem list_ne {a b : ByteArray} (h : a ≠ b) : a.toList ≠ b.toList := fun e => h (by
  have : a.data.toList = b.data.toList := by rw [← Lib.toList_data a, ← Lib.toList_data b]; exact e
  exact ByteArray.ext (Array.toList_inj.1 this))

set_option maxRecDepth 100000 in
set_option maxHeartbeats 3200000 in
theorem rparse_neg (s : ByteArray) (w : World) (hs : s.size ≤ 9223372036854775000) (h0 : 0 < s.size) (hm : s[0] = 45) :
    Calls Tryd.prog 36 #[.string s] w (RPost s.data.toList w) := by
  have hmb : ((s[0].toNat : Int) == 45) = true := by rw [hm]; rfl
  have hI : SgI s.data.toList 1 := .inl ⟨rfl, by rw [at_byte s 0 h0, hm]⟩
  have HI := Lib.hid hI; clear hI
  clear hm
  go_enter Tryd.func36, Tryd.ntmps36
  go_wp2_with fail
  ((with_reducible refine (digits_dg s 1 1 _ hs (by omega) (by omega)).mono ?_); rintro e w1 ⟨j, hj, rfl, rfl⟩)
  have hlt := hj.lt
  have hjl := hj.2.1
  have HJ := Lib.hid hj; clear hj
  generalize hV : dval ((s.data.toList.drop 1).take j) = V at *
  have HV := Lib.hid hV; clear hV
  have hjl' : 1 + j ≤ s.size := by simpa using hjl
  clear hjl
  by_cases hk : 1 + j < s.size
  · by_cases hsl : s[1 + j] = 47
    · have hsb : ((s[1 + j].toNat : Int) == 47) = true := by rw [hsl]; rfl
      have HSL := Lib.hid (show s.data.toList[1 + j]? = some 47 by rw [at_byte s _ hk, hsl]); clear hsl
      go_wp2_with fail
      ((with_reducible refine (digits_dg s (1 + (j : Int) + 1) (1 + j + 1) _ hs (by omega) (by omega)).mono ?_); rintro e w1 ⟨j2, hj2, rfl, rfl⟩)
      have hlt2 := hj2.lt
      have hjl2 : 1 + j + 1 + j2 ≤ s.size := by have := hj2.2.1; simpa using this
      have HJ2 := Lib.hid hj2; clear hj2
      generalize hV2 : dval ((s.data.toList.drop (1 + j + 1)).take j2) = V2 at *
      have HV2 := Lib.hid hV2; clear hV2
      have HGU := Lib.hid (show Guess s.data.toList (-(V : Int)) ((V2 : Int)) (1 + j + 1 + j2) from ⟨1, j, HI.out, HJ.out, by rw [if_pos rfl, HV.out], .inl ⟨HSL.out, j2, HJ2.out, by rw [HV2.out], rfl⟩⟩)
      have hnd : i64p (-(V : Int), (V2 : Int)) := ⟨by simp only; omega, by simp only; omega, by simp only; omega, by simp only; omega⟩
      by_cases hK : 1 + j + 1 + j2 = s.size
      · have hKb : ((1 + (j : Int) + 1 + (j2 : Int)) != (s.size : Int)) = false := by simp; omega
        have hKc : (s.data.toList.length) = 1 + j + 1 + j2 := by simp; omega
        have HKc := Lib.hid hKc; clear hKc
        cases hv : vldB (-(V : Int)) ((V2 : Int))
        · go_wp2_with fail
          ((with_reducible refine (rvalid_any _ _ _ hnd).mono ?_); rintro e wv ⟨rfl, hbv⟩)
          have hBX : Bx wv (w.heap.size + 1) (-(V : Int)) ((V2 : Int)) := by have := (Bx.new (w.alloc (.cells #[.int .i64 0, .int .i64 0] 24)) (-(V : Int)) ((V2 : Int))).below hbv; simpa using this
          have hBW := ((Bv.new w 0 0).below (below_alloc _ _)).below hbv
          have hw := below_then (below_then (below_alloc w _) (below_alloc _ _)) hbv
          clear hbv
          have HBX := Lib.hid hBX
          have HBW := Lib.hid hBW
          obtain ⟨zb, b0, b1⟩ := hBX
          obtain ⟨⟨zr, r0, r1⟩, t0, t1⟩ := hBW
          go_wp2_with fail
          exact bodyPost_ret (v := .tuple #[.agg #[.int .i64 0, .int .i64 0], .bool false]) (by simp [results, Tryd.results36, go_sem, r0, r1]) rfl ⟨_, _, _, HGU.out, by rw [if_neg (fun h => by rw [hv] at h; cases h.2.1)]; rfl, (hw.setCell (by simp) _).setCell (by simp) _⟩
        · go_wp2_with fail
          ((with_reducible refine (rvalid_any _ _ _ hnd).mono ?_); rintro e wv ⟨rfl, hbv⟩)
          have hBX : Bx wv (w.heap.size + 1) (-(V : Int)) ((V2 : Int)) := by have := (Bx.new (w.alloc (.cells #[.int .i64 0, .int .i64 0] 24)) (-(V : Int)) ((V2 : Int))).below hbv; simpa using this
          have hBW := ((Bv.new w 0 0).below (below_alloc _ _)).below hbv
          have hw := below_then (below_then (below_alloc w _) (below_alloc _ _)) hbv
          clear hbv
          have HBX := Lib.hid hBX
          have HBW := Lib.hid hBW
          obtain ⟨zb, b0, b1⟩ := hBX
          obtain ⟨⟨zr, r0, r1⟩, t0, t1⟩ := hBW
          go_wp2_with fail
          ((with_reducible refine (rtext_any _ _ _ hv).mono ?_); rintro e wt ⟨rfl, hbt⟩)
          clear zb b0 b1 zr r0 r1 t0 t1
          obtain ⟨zb, b0, b1⟩ := HBX.out.below hbt
          obtain ⟨⟨zr, r0, r1⟩, t0, t1⟩ := HBW.out.below hbt
          replace hw := below_then hw hbt
          clear hbt HBX HBW
          by_cases ht : textv (-(V : Int)) ((V2 : Int)) = s.data.toList
          · have hte := eq_of_lists ht
            have HTX := Lib.hid ht; clear ht
            rw [hte]
            clear hte
            go_wp2_with fail
            exact bodyPost_ret (v := .tuple #[.agg #[.int .i64 (-(V : Int)), .int .i64 ((V2 : Int))], .bool true]) (by simp [results, Tryd.results36, go_sem, r0, r1]) rfl ⟨_, _, _, HGU.out, by rw [if_pos ⟨HKc.out.symm, hv, HTX.out⟩]; rfl, (hw.setCell (by simp) _).setCell (by simp) _⟩
          · have hne := ne_of_lists ht
            generalize hB : (⟨(textv (-(V : Int)) ((V2 : Int))).toArray⟩ : ByteArray) = tb at *
            have hnb : (tb.toList == s.toList) = false := by simp [list_ne hne]
            clear hB hne
            go_wp2_with fail
            exact bodyPost_ret (v := .tuple #[.agg #[.int .i64 0, .int .i64 0], .bool false]) (by simp [results, Tryd.results36, go_sem, r0, r1]) rfl ⟨_, _, _, HGU.out, by rw [if_neg (fun h => ht h.2.2)]; rfl, (hw.setCell (by simp) _).setCell (by simp) _⟩
      · have hKb : ((1 + (j : Int) + 1 + (j2 : Int)) != (s.size : Int)) = true := by simp; omega
        have hBW := (Bv.new w 0 0).below (below_alloc _ (.cells #[.int .i64 (-(V : Int)), .int .i64 ((V2 : Int))] 24))
        have hw := below_then (below_alloc w (.cells #[.int .i64 0, .int .i64 0] 24)) (below_alloc _ (.cells #[.int .i64 (-(V : Int)), .int .i64 ((V2 : Int))] 24))
        obtain ⟨⟨zr, r0, r1⟩, t0, t1⟩ := hBW
        go_wp2_with fail
        exact bodyPost_ret (v := .tuple #[.agg #[.int .i64 0, .int .i64 0], .bool false]) (by simp [results, Tryd.results36, go_sem]) rfl ⟨_, _, _, HGU.out, by rw [if_neg (fun h => hK (by have := h.1; simpa using this))]; rfl, ((Below.refl _ _).alloc (Nat.le_refl _) _).alloc (by simp) _⟩
    · have hsb : ((s[1 + j].toNat : Int) == 47) = false := by simp; intro h; exact hsl (byte_of h)
      have HSL := Lib.hid (show s.data.toList[1 + j]? ≠ some 47 by rw [at_byte s _ hk]; intro h; exact hsl (Option.some.inj h)); clear hsl
      have HGU := Lib.hid (show Guess s.data.toList (-(V : Int)) (1) (1 + j) from ⟨1, j, HI.out, HJ.out, by rw [if_pos rfl, HV.out], .inr ⟨HSL.out, rfl, rfl⟩⟩)
      have hnd : i64p (-(V : Int), 1) := ⟨by simp only; omega, by simp only; omega, by simp only; omega, by simp only; omega⟩
      have hK : ¬ 1 + j = s.size := by omega
      have hKb : ((1 + (j : Int)) != (s.size : Int)) = true := by simp; omega
      have hBW := (Bv.new w 0 0).below (below_alloc _ (.cells #[.int .i64 (-(V : Int)), .int .i64 (1)] 24))
      have hw := below_then (below_alloc w (.cells #[.int .i64 0, .int .i64 0] 24)) (below_alloc _ (.cells #[.int .i64 (-(V : Int)), .int .i64 (1)] 24))
      obtain ⟨⟨zr, r0, r1⟩, t0, t1⟩ := hBW
      go_wp2_with fail
      exact bodyPost_ret (v := .tuple #[.agg #[.int .i64 0, .int .i64 0], .bool false]) (by simp [results, Tryd.results36, go_sem]) rfl ⟨_, _, _, HGU.out, by rw [if_neg (fun h => hK (by have := h.1; simpa using this))]; rfl, ((Below.refl _ _).alloc (Nat.le_refl _) _).alloc (by simp) _⟩
  · have HSL := Lib.hid (show s.data.toList[1 + j]? ≠ some 47 by rw [List.getElem?_eq_none (by simp; omega)]; simp)
    have HGU := Lib.hid (show Guess s.data.toList (-(V : Int)) (1) (1 + j) from ⟨1, j, HI.out, HJ.out, by rw [if_pos rfl, HV.out], .inr ⟨HSL.out, rfl, rfl⟩⟩)
    have hnd : i64p (-(V : Int), 1) := ⟨by simp only; omega, by simp only; omega, by simp only; omega, by simp only; omega⟩
    have hK : 1 + j = s.size := by omega
    have hKb : ((1 + (j : Int)) != (s.size : Int)) = false := by simp; omega
    have hKc : (s.data.toList.length) = 1 + j := by simp; omega
    have HKc := Lib.hid hKc; clear hKc
    cases hv : vldB (-(V : Int)) (1)
    · go_wp2_with fail
      ((with_reducible refine (rvalid_any _ _ _ hnd).mono ?_); rintro e wv ⟨rfl, hbv⟩)
      have hBX : Bx wv (w.heap.size + 1) (-(V : Int)) (1) := by have := (Bx.new (w.alloc (.cells #[.int .i64 0, .int .i64 0] 24)) (-(V : Int)) (1)).below hbv; simpa using this
      have hBW := ((Bv.new w 0 0).below (below_alloc _ _)).below hbv
      have hw := below_then (below_then (below_alloc w _) (below_alloc _ _)) hbv
      clear hbv
      have HBX := Lib.hid hBX
      have HBW := Lib.hid hBW
      obtain ⟨zb, b0, b1⟩ := hBX
      obtain ⟨⟨zr, r0, r1⟩, t0, t1⟩ := hBW
      go_wp2_with fail
      exact bodyPost_ret (v := .tuple #[.agg #[.int .i64 0, .int .i64 0], .bool false]) (by simp [results, Tryd.results36, go_sem, r0, r1]) rfl ⟨_, _, _, HGU.out, by rw [if_neg (fun h => by rw [hv] at h; cases h.2.1)]; rfl, (hw.setCell (by simp) _).setCell (by simp) _⟩
    · go_wp2_with fail
      ((with_reducible refine (rvalid_any _ _ _ hnd).mono ?_); rintro e wv ⟨rfl, hbv⟩)
      have hBX : Bx wv (w.heap.size + 1) (-(V : Int)) (1) := by have := (Bx.new (w.alloc (.cells #[.int .i64 0, .int .i64 0] 24)) (-(V : Int)) (1)).below hbv; simpa using this
      have hBW := ((Bv.new w 0 0).below (below_alloc _ _)).below hbv
      have hw := below_then (below_then (below_alloc w _) (below_alloc _ _)) hbv
      clear hbv
      have HBX := Lib.hid hBX
      have HBW := Lib.hid hBW
      obtain ⟨zb, b0, b1⟩ := hBX
      obtain ⟨⟨zr, r0, r1⟩, t0, t1⟩ := hBW
      go_wp2_with fail
      ((with_reducible refine (rtext_any _ _ _ hv).mono ?_); rintro e wt ⟨rfl, hbt⟩)
      clear zb b0 b1 zr r0 r1 t0 t1
      obtain ⟨zb, b0, b1⟩ := HBX.out.below hbt
      obtain ⟨⟨zr, r0, r1⟩, t0, t1⟩ := HBW.out.below hbt
      replace hw := below_then hw hbt
      clear hbt HBX HBW
      by_cases ht : textv (-(V : Int)) (1) = s.data.toList
      · have hte := eq_of_lists ht
        have HTX := Lib.hid ht; clear ht
        rw [hte]
        clear hte
        go_wp2_with fail
        exact bodyPost_ret (v := .tuple #[.agg #[.int .i64 (-(V : Int)), .int .i64 (1)], .bool true]) (by simp [results, Tryd.results36, go_sem, r0, r1]) rfl ⟨_, _, _, HGU.out, by rw [if_pos ⟨HKc.out.symm, hv, HTX.out⟩]; rfl, (hw.setCell (by simp) _).setCell (by simp) _⟩
      · have hne := ne_of_lists ht
        generalize hB : (⟨(textv (-(V : Int)) (1)).toArray⟩ : ByteArray) = tb at *
        have hnb : (tb.toList == s.toList) = false := by simp [list_ne hne]
        clear hB hne
        go_wp2_with fail
        exact bodyPost_ret (v := .tuple #[.agg #[.int .i64 0, .int .i64 0], .bool false]) (by simp [results, Tryd.results36, go_sem, r0, r1]) rfl ⟨_, _, _, HGU.out, by rw [if_neg (fun h => ht h.2.2)]; rfl, (hw.setCell (by simp) _).setCell (by simp) _⟩

set_option maxRecDepth 100000 in
set_option maxHeartbeats 3200000 in
theorem rparse_pos (s : ByteArray) (w : World) (hs : s.size ≤ 9223372036854775000) (h0 : 0 < s.size) (hm : s[0] ≠ 45) :
    Calls Tryd.prog 36 #[.string s] w (RPost s.data.toList w) := by
  have hmb : ((s[0].toNat : Int) == 45) = false := by simp; intro h; exact hm (byte_of h)
  have hI : SgI s.data.toList 0 := .inr ⟨rfl, by rw [at_byte s 0 h0]; intro h; exact hm (Option.some.inj h)⟩
  have HI := Lib.hid hI; clear hI
  clear hm
  go_enter Tryd.func36, Tryd.ntmps36
  go_wp2_with fail
  ((with_reducible refine (digits_dg s 0 0 _ hs (by omega) (by omega)).mono ?_); rintro e w1 ⟨j, hj, rfl, rfl⟩)
  rw [Int.zero_add]
  have hlt := hj.lt
  have hjl := hj.2.1
  have HJ := Lib.hid hj; clear hj
  generalize hV : dval ((s.data.toList.drop 0).take j) = V at *
  have HV := Lib.hid hV; clear hV
  have hjl' : j ≤ s.size := by simpa using hjl
  clear hjl
  by_cases hk : j < s.size
  · by_cases hsl : s[j] = 47
    · have hsb : ((s[j].toNat : Int) == 47) = true := by rw [hsl]; rfl
      have HSL := Lib.hid (show s.data.toList[0 + j]? = some 47 by rw [Nat.zero_add]; rw [at_byte s _ hk, hsl]); clear hsl
      go_wp2_with fail
      ((with_reducible refine (digits_dg s ((j : Int) + 1) (0 + j + 1) _ hs (by omega) (by omega)).mono ?_); rintro e w1 ⟨j2, hj2, rfl, rfl⟩)
      have hlt2 := hj2.lt
      have hjl2 : 0 + j + 1 + j2 ≤ s.size := by have := hj2.2.1; simpa using this
      have HJ2 := Lib.hid hj2; clear hj2
      generalize hV2 : dval ((s.data.toList.drop (0 + j + 1)).take j2) = V2 at *
      have HV2 := Lib.hid hV2; clear hV2
      have HGU := Lib.hid (show Guess s.data.toList ((V : Int)) ((V2 : Int)) (0 + j + 1 + j2) from ⟨0, j, HI.out, HJ.out, by rw [if_neg (by omega), HV.out], .inl ⟨HSL.out, j2, HJ2.out, by rw [HV2.out], rfl⟩⟩)
      have hnd : i64p ((V : Int), (V2 : Int)) := ⟨by simp only; omega, by simp only; omega, by simp only; omega, by simp only; omega⟩
      by_cases hK : 0 + j + 1 + j2 = s.size
      · have hKb : (((j : Int) + 1 + (j2 : Int)) != (s.size : Int)) = false := by simp; omega
        have hKc : (s.data.toList.length) = 0 + j + 1 + j2 := by simp; omega
        have HKc := Lib.hid hKc; clear hKc
        cases hv : vldB ((V : Int)) ((V2 : Int))
        · go_wp2_with fail
          ((with_reducible refine (rvalid_any _ _ _ hnd).mono ?_); rintro e wv ⟨rfl, hbv⟩)
          have hBX : Bx wv (w.heap.size + 1) ((V : Int)) ((V2 : Int)) := by have := (Bx.new (w.alloc (.cells #[.int .i64 0, .int .i64 0] 24)) ((V : Int)) ((V2 : Int))).below hbv; simpa using this
          have hBW := ((Bv.new w 0 0).below (below_alloc _ _)).below hbv
          have hw := below_then (below_then (below_alloc w _) (below_alloc _ _)) hbv
          clear hbv
          have HBX := Lib.hid hBX
          have HBW := Lib.hid hBW
          obtain ⟨zb, b0, b1⟩ := hBX
          obtain ⟨⟨zr, r0, r1⟩, t0, t1⟩ := hBW
          go_wp2_with fail
          exact bodyPost_ret (v := .tuple #[.agg #[.int .i64 0, .int .i64 0], .bool false]) (by simp [results, Tryd.results36, go_sem, r0, r1]) rfl ⟨_, _, _, HGU.out, by rw [if_neg (fun h => by rw [hv] at h; cases h.2.1)]; rfl, (hw.setCell (by simp) _).setCell (by simp) _⟩
        · go_wp2_with fail
          ((with_reducible refine (rvalid_any _ _ _ hnd).mono ?_); rintro e wv ⟨rfl, hbv⟩)
          have hBX : Bx wv (w.heap.size + 1) ((V : Int)) ((V2 : Int)) := by have := (Bx.new (w.alloc (.cells #[.int .i64 0, .int .i64 0] 24)) ((V : Int)) ((V2 : Int))).below hbv; simpa using this
          have hBW := ((Bv.new w 0 0).below (below_alloc _ _)).below hbv
          have hw := below_then (below_then (below_alloc w _) (below_alloc _ _)) hbv
          clear hbv
          have HBX := Lib.hid hBX
          have HBW := Lib.hid hBW
          obtain ⟨zb, b0, b1⟩ := hBX
          obtain ⟨⟨zr, r0, r1⟩, t0, t1⟩ := hBW
          go_wp2_with fail
          ((with_reducible refine (rtext_any _ _ _ hv).mono ?_); rintro e wt ⟨rfl, hbt⟩)
          clear zb b0 b1 zr r0 r1 t0 t1
          obtain ⟨zb, b0, b1⟩ := HBX.out.below hbt
          obtain ⟨⟨zr, r0, r1⟩, t0, t1⟩ := HBW.out.below hbt
          replace hw := below_then hw hbt
          clear hbt HBX HBW
          by_cases ht : textv ((V : Int)) ((V2 : Int)) = s.data.toList
          · have hte := eq_of_lists ht
            have HTX := Lib.hid ht; clear ht
            rw [hte]
            clear hte
            go_wp2_with fail
            exact bodyPost_ret (v := .tuple #[.agg #[.int .i64 ((V : Int)), .int .i64 ((V2 : Int))], .bool true]) (by simp [results, Tryd.results36, go_sem, r0, r1]) rfl ⟨_, _, _, HGU.out, by rw [if_pos ⟨HKc.out.symm, hv, HTX.out⟩]; rfl, (hw.setCell (by simp) _).setCell (by simp) _⟩
          · have hne := ne_of_lists ht
            generalize hB : (⟨(textv ((V : Int)) ((V2 : Int))).toArray⟩ : ByteArray) = tb at *
            have hnb : (tb.toList == s.toList) = false := by simp [list_ne hne]
            clear hB hne
            go_wp2_with fail
            exact bodyPost_ret (v := .tuple #[.agg #[.int .i64 0, .int .i64 0], .bool false]) (by simp [results, Tryd.results36, go_sem, r0, r1]) rfl ⟨_, _, _, HGU.out, by rw [if_neg (fun h => ht h.2.2)]; rfl, (hw.setCell (by simp) _).setCell (by simp) _⟩
      · have hKb : (((j : Int) + 1 + (j2 : Int)) != (s.size : Int)) = true := by simp; omega
        have hBW := (Bv.new w 0 0).below (below_alloc _ (.cells #[.int .i64 ((V : Int)), .int .i64 ((V2 : Int))] 24))
        have hw := below_then (below_alloc w (.cells #[.int .i64 0, .int .i64 0] 24)) (below_alloc _ (.cells #[.int .i64 ((V : Int)), .int .i64 ((V2 : Int))] 24))
        obtain ⟨⟨zr, r0, r1⟩, t0, t1⟩ := hBW
        go_wp2_with fail
        exact bodyPost_ret (v := .tuple #[.agg #[.int .i64 0, .int .i64 0], .bool false]) (by simp [results, Tryd.results36, go_sem]) rfl ⟨_, _, _, HGU.out, by rw [if_neg (fun h => hK (by have := h.1; simpa using this))]; rfl, ((Below.refl _ _).alloc (Nat.le_refl _) _).alloc (by simp) _⟩
    · have hsb : ((s[j].toNat : Int) == 47) = false := by simp; intro h; exact hsl (byte_of h)
      have HSL := Lib.hid (show s.data.toList[0 + j]? ≠ some 47 by rw [Nat.zero_add]; rw [at_byte s _ hk]; intro h; exact hsl (Option.some.inj h)); clear hsl
      have HGU := Lib.hid (show Guess s.data.toList ((V : Int)) (1) (0 + j) from ⟨0, j, HI.out, HJ.out, by rw [if_neg (by omega), HV.out], .inr ⟨HSL.out, rfl, rfl⟩⟩)
      have hnd : i64p ((V : Int), 1) := ⟨by simp only; omega, by simp only; omega, by simp only; omega, by simp only; omega⟩
      have hK : ¬ 0 + j = s.size := by omega
      have hKb : (((j : Int)) != (s.size : Int)) = true := by simp; omega
      have hBW := (Bv.new w 0 0).below (below_alloc _ (.cells #[.int .i64 ((V : Int)), .int .i64 (1)] 24))
      have hw := below_then (below_alloc w (.cells #[.int .i64 0, .int .i64 0] 24)) (below_alloc _ (.cells #[.int .i64 ((V : Int)), .int .i64 (1)] 24))
      obtain ⟨⟨zr, r0, r1⟩, t0, t1⟩ := hBW
      go_wp2_with fail
      exact bodyPost_ret (v := .tuple #[.agg #[.int .i64 0, .int .i64 0], .bool false]) (by simp [results, Tryd.results36, go_sem]) rfl ⟨_, _, _, HGU.out, by rw [if_neg (fun h => hK (by have := h.1; simpa using this))]; rfl, ((Below.refl _ _).alloc (Nat.le_refl _) _).alloc (by simp) _⟩
  · have HSL := Lib.hid (show s.data.toList[0 + j]? ≠ some 47 by rw [List.getElem?_eq_none (by simp; omega)]; simp)
    have HGU := Lib.hid (show Guess s.data.toList ((V : Int)) (1) (0 + j) from ⟨0, j, HI.out, HJ.out, by rw [if_neg (by omega), HV.out], .inr ⟨HSL.out, rfl, rfl⟩⟩)
    have hnd : i64p ((V : Int), 1) := ⟨by simp only; omega, by simp only; omega, by simp only; omega, by simp only; omega⟩
    have hK : 0 + j = s.size := by omega
    have hKb : (((j : Int)) != (s.size : Int)) = false := by simp; omega
    have hKc : (s.data.toList.length) = 0 + j := by simp; omega
    have HKc := Lib.hid hKc; clear hKc
    cases hv : vldB ((V : Int)) (1)
    · go_wp2_with fail
      ((with_reducible refine (rvalid_any _ _ _ hnd).mono ?_); rintro e wv ⟨rfl, hbv⟩)
      have hBX : Bx wv (w.heap.size + 1) ((V : Int)) (1) := by have := (Bx.new (w.alloc (.cells #[.int .i64 0, .int .i64 0] 24)) ((V : Int)) (1)).below hbv; simpa using this
      have hBW := ((Bv.new w 0 0).below (below_alloc _ _)).below hbv
      have hw := below_then (below_then (below_alloc w _) (below_alloc _ _)) hbv
      clear hbv
      have HBX := Lib.hid hBX
      have HBW := Lib.hid hBW
      obtain ⟨zb, b0, b1⟩ := hBX
      obtain ⟨⟨zr, r0, r1⟩, t0, t1⟩ := hBW
      go_wp2_with fail
      exact bodyPost_ret (v := .tuple #[.agg #[.int .i64 0, .int .i64 0], .bool false]) (by simp [results, Tryd.results36, go_sem, r0, r1]) rfl ⟨_, _, _, HGU.out, by rw [if_neg (fun h => by rw [hv] at h; cases h.2.1)]; rfl, (hw.setCell (by simp) _).setCell (by simp) _⟩
    · go_wp2_with fail
      ((with_reducible refine (rvalid_any _ _ _ hnd).mono ?_); rintro e wv ⟨rfl, hbv⟩)
      have hBX : Bx wv (w.heap.size + 1) ((V : Int)) (1) := by have := (Bx.new (w.alloc (.cells #[.int .i64 0, .int .i64 0] 24)) ((V : Int)) (1)).below hbv; simpa using this
      have hBW := ((Bv.new w 0 0).below (below_alloc _ _)).below hbv
      have hw := below_then (below_then (below_alloc w _) (below_alloc _ _)) hbv
      clear hbv
      have HBX := Lib.hid hBX
      have HBW := Lib.hid hBW
      obtain ⟨zb, b0, b1⟩ := hBX
      obtain ⟨⟨zr, r0, r1⟩, t0, t1⟩ := hBW
      go_wp2_with fail
      ((with_reducible refine (rtext_any _ _ _ hv).mono ?_); rintro e wt ⟨rfl, hbt⟩)
      clear zb b0 b1 zr r0 r1 t0 t1
      obtain ⟨zb, b0, b1⟩ := HBX.out.below hbt
      obtain ⟨⟨zr, r0, r1⟩, t0, t1⟩ := HBW.out.below hbt
      replace hw := below_then hw hbt
      clear hbt HBX HBW
      by_cases ht : textv ((V : Int)) (1) = s.data.toList
      · have hte := eq_of_lists ht
        have HTX := Lib.hid ht; clear ht
        rw [hte]
        clear hte
        go_wp2_with fail
        exact bodyPost_ret (v := .tuple #[.agg #[.int .i64 ((V : Int)), .int .i64 (1)], .bool true]) (by simp [results, Tryd.results36, go_sem, r0, r1]) rfl ⟨_, _, _, HGU.out, by rw [if_pos ⟨HKc.out.symm, hv, HTX.out⟩]; rfl, (hw.setCell (by simp) _).setCell (by simp) _⟩
      · have hne := ne_of_lists ht
        generalize hB : (⟨(textv ((V : Int)) (1)).toArray⟩ : ByteArray) = tb at *
        have hnb : (tb.toList == s.toList) = false := by simp [list_ne hne]
        clear hB hne
        go_wp2_with fail
        exact bodyPost_ret (v := .tuple #[.agg #[.int .i64 0, .int .i64 0], .bool false]) (by simp [results, Tryd.results36, go_sem, r0, r1]) rfl ⟨_, _, _, HGU.out, by rw [if_neg (fun h => ht h.2.2)]; rfl, (hw.setCell (by simp) _).setCell (by simp) _⟩

set_option maxRecDepth 100000 in
set_option maxHeartbeats 3200000 in
theorem rparse_empty (s : ByteArray) (w : World) (hs : s.size ≤ 9223372036854775000) (h0 : ¬ 0 < s.size) :
    Calls Tryd.prog 36 #[.string s] w (RPost s.data.toList w) := by
  have hI : SgI s.data.toList 0 := .inr ⟨rfl, by rw [List.getElem?_eq_none (by have := Lib.size_eq s; omega)]; simp⟩
  have HI := Lib.hid hI; clear hI
  go_enter Tryd.func36, Tryd.ntmps36
  go_wp2_with fail
  ((with_reducible refine (digits_dg s 0 0 _ hs (by omega) (by omega)).mono ?_); rintro e w1 ⟨j, hj, rfl, rfl⟩)
  rw [Int.zero_add]
  have hlt := hj.lt
  have hjl := hj.2.1
  have HJ := Lib.hid hj; clear hj
  generalize hV : dval ((s.data.toList.drop 0).take j) = V at *
  have HV := Lib.hid hV; clear hV
  have hjl' : j ≤ s.size := by simpa using hjl
  clear hjl
  have HSL := Lib.hid (show s.data.toList[0 + j]? ≠ some 47 by rw [List.getElem?_eq_none (by have := Lib.size_eq s; omega)]; simp)
  have HGU := Lib.hid (show Guess s.data.toList ((V : Int)) (1) (0 + j) from ⟨0, j, HI.out, HJ.out, by rw [if_neg (by omega), HV.out], .inr ⟨HSL.out, rfl, rfl⟩⟩)
  have hnd : i64p ((V : Int), 1) := ⟨by simp only; omega, by simp only; omega, by simp only; omega, by simp only; omega⟩
  have hK : 0 + j = s.size := by omega
  have hKb : (((j : Int)) != (s.size : Int)) = false := by simp; omega
  have hKc : (s.data.toList.length) = 0 + j := by simp; omega
  have HKc := Lib.hid hKc; clear hKc
  cases hv : vldB ((V : Int)) (1)
  · go_wp2_with fail
    ((with_reducible refine (rvalid_any _ _ _ hnd).mono ?_); rintro e wv ⟨rfl, hbv⟩)
    have hBX : Bx wv (w.heap.size + 1) ((V : Int)) (1) := by have := (Bx.new (w.alloc (.cells #[.int .i64 0, .int .i64 0] 24)) ((V : Int)) (1)).below hbv; simpa using this
    have hBW := ((Bv.new w 0 0).below (below_alloc _ _)).below hbv
    have hw := below_then (below_then (below_alloc w _) (below_alloc _ _)) hbv
    clear hbv
    have HBX := Lib.hid hBX
    have HBW := Lib.hid hBW
    obtain ⟨zb, b0, b1⟩ := hBX
    obtain ⟨⟨zr, r0, r1⟩, t0, t1⟩ := hBW
    go_wp2_with fail
    exact bodyPost_ret (v := .tuple #[.agg #[.int .i64 0, .int .i64 0], .bool false]) (by simp [results, Tryd.results36, go_sem, r0, r1]) rfl ⟨_, _, _, HGU.out, by rw [if_neg (fun h => by rw [hv] at h; cases h.2.1)]; rfl, (hw.setCell (by simp) _).setCell (by simp) _⟩
  · go_wp2_with fail
    ((with_reducible refine (rvalid_any _ _ _ hnd).mono ?_); rintro e wv ⟨rfl, hbv⟩)
    have hBX : Bx wv (w.heap.size + 1) ((V : Int)) (1) := by have := (Bx.new (w.alloc (.cells #[.int .i64 0, .int .i64 0] 24)) ((V : Int)) (1)).below hbv; simpa using this
    have hBW := ((Bv.new w 0 0).below (below_alloc _ _)).below hbv
    have hw := below_then (below_then (below_alloc w _) (below_alloc _ _)) hbv
    clear hbv
    have HBX := Lib.hid hBX
    have HBW := Lib.hid hBW
    obtain ⟨zb, b0, b1⟩ := hBX
    obtain ⟨⟨zr, r0, r1⟩, t0, t1⟩ := hBW
    go_wp2_with fail
    ((with_reducible refine (rtext_any _ _ _ hv).mono ?_); rintro e wt ⟨rfl, hbt⟩)
    clear zb b0 b1 zr r0 r1 t0 t1
    obtain ⟨zb, b0, b1⟩ := HBX.out.below hbt
    obtain ⟨⟨zr, r0, r1⟩, t0, t1⟩ := HBW.out.below hbt
    replace hw := below_then hw hbt
    clear hbt HBX HBW
    by_cases ht : textv ((V : Int)) (1) = s.data.toList
    · have hte := eq_of_lists ht
      have HTX := Lib.hid ht; clear ht
      rw [hte]
      clear hte
      go_wp2_with fail
      exact bodyPost_ret (v := .tuple #[.agg #[.int .i64 ((V : Int)), .int .i64 (1)], .bool true]) (by simp [results, Tryd.results36, go_sem, r0, r1]) rfl ⟨_, _, _, HGU.out, by rw [if_pos ⟨HKc.out.symm, hv, HTX.out⟩]; rfl, (hw.setCell (by simp) _).setCell (by simp) _⟩
    · have hne := ne_of_lists ht
      generalize hB : (⟨(textv ((V : Int)) (1)).toArray⟩ : ByteArray) = tb at *
      have hnb : (tb.toList == s.toList) = false := by simp [list_ne hne]
      clear hB hne
      go_wp2_with fail
      exact bodyPost_ret (v := .tuple #[.agg #[.int .i64 0, .int .i64 0], .bool false]) (by simp [results, Tryd.results36, go_sem, r0, r1]) rfl ⟨_, _, _, HGU.out, by rw [if_neg (fun h => ht h.2.2)]; rfl, (hw.setCell (by simp) _).setCell (by simp) _⟩

theorem rparse_any (s : ByteArray) (w : World) (hs : s.size ≤ 9223372036854775000) :
    Calls Tryd.prog 36 #[.string s] w (RPost s.data.toList w) := by
  by_cases h0 : 0 < s.size
  · by_cases hm : s[0] = 45
    · exact rparse_neg s w hs h0 hm
    · exact rparse_pos s w hs h0 hm
  · exact rparse_empty s w hs h0
end Go.Proofs.YtbdihcpehadbjaaDoor
