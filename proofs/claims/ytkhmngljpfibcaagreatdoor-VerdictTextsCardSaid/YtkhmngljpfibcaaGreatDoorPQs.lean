/- verdict's writer: line, lines: what a call does. -/
import Derived.Test.YtkhmngljpfibcaaGreatDoorPUu
import Derived.Test.YtkhmngljpfibcaaGreatDoorPQr
namespace Go.Proofs.YtkhmngljpfibcaaGreatDoor
set_option maxRecDepth 100000
set_option maxHeartbeats 6400000
open Go.Lib (hid)
open Go.RowKit

def numT (x : Int) : List UInt8 := 32 :: Lib.itoa x
def lineL (s : List UInt8) (l : List Int) : List UInt8 := s ++ (l.flatMap numT ++ [10])
def linesL (s : List UInt8) (LL : List (List Int)) : List UInt8 := LL.flatMap (lineL s)
def bigI (x : Int) : Bool := decide (x < -1048576) || decide (1048576 < x)
theorem numT_snoc (l : List Int) (k : Nat) (h : k < l.length) : (l.take (k + 1)).flatMap numT = (l.take k).flatMap numT ++ numT l[k] := by
 rw [List.take_succ_eq_append_getElem h, List.flatMap_append]; simp
theorem numT_len (l : List Int) (h : i64s l) : (l.flatMap numT).length ≤ 22 * l.length := by
 induction l with
 | nil => simp
 | cons x l ih =>
  have h1 := ih fun y hy => h y (List.mem_cons_of_mem _ hy)
  have h2 := h x (List.mem_cons_self ..);have h3 := Lib.itoa_length_le x h2.1 h2.2;have h4 : (numT x).length ≤ 22 := by unfold numT; rw [List.length_cons]; omega
  rw [List.flatMap_cons, List.length_append, List.length_cons]; omega
theorem lineL_len (s : List UInt8) (l : List Int) (h : i64s l) : (lineL s l).length ≤ s.length + 22 * l.length + 1 := by
 have := numT_len l h;unfold lineL;rw [List.length_append, List.length_append, List.length_singleton]; omega
theorem any_big (l : List Int) (k : Nat) (h : k < l.length) : (l.take (k + 1)).any bigI = ((l.take k).any bigI || bigI l[k]) := by
 rw [List.take_succ_eq_append_getElem h, List.any_append]; simp
def WPo (B b : Nat) (acc : List UInt8) (bad : Bool) (w : World) (e : Ending) (w' : World) : Prop := e = .returned (.tuple #[]) ∧ Wr B b acc bad w' ∧ Below B w w' ∧ Lib.OthersKept 5 (some b) w w'
theorem kept_below {b : Option Nat} {w w' : World} (h : Below w.heap.size w w') : Lib.OthersKept 5 b w w' := by
 intro k o hk _ _;rw [h.block k (Array.getElem?_eq_some_iff.1 hk).1]; exact hk
theorem wline_any (B b : Nat) (acc : List UInt8) (bad : Bool) (s : ByteArray) (A : Option Addr) (n c : Nat) (L : List Int) (w : World) (hW : Wr B b acc bad w) (hBw : B ≤ w.heap.size) (hBb : B ≤ b) (hZ : ∀ w', Below B w w' → Lib.OthersKept 5 (some b) w w' → ZIn w' A L) (hn : L.length = n) (hn2 : n ≤ 1000000) (hi : i64s L) (hlen : acc.length + s.size ≤ 100000000000) (ht : ∀ w', Below B w w' → Tb w') :
 Calls Tryz.prog 109 #[.pointer (some ⟨b, 0, none⟩), .string s, .slice A n c] w (WPo B b (acc ++ lineL s.data.toList L) (bad || L.any bigI) w) := by
 have HZ := hid hZ;have HN := hid hn;have HI := hid hi;have HT := hid ht;have HBw := hid hBw;have HBb := hid hBb;have HSs := hid (show acc.length + s.size ≤ 100000000000 from hlen);have HW := hid (wString_any B b acc bad s w hW (by omega) hBw);clear hZ hn hi ht hBw hBb hlen hW;go_enter Tryz.func109, Tryz.ntmps109;go_wp2_with fail;((with_reducible refine HW.out.mono ?_); rintro e w0 ⟨rfl, hW0, hB0, hO0⟩)
 have HS0 := hid hW0;have HB0 := hid hB0;have HO0 := hid hO0;clear hW0 hB0 hO0 HW;go_wp2_with fail;go_loopg [15] (n) (fun g iv wr => ∃ k : Nat, k + g = n ∧ iv = .int .i64 (k : Int) ∧ Wr B b (acc ++ s.data.toList ++ (L.take k).flatMap numT) (bad || (L.take k).any bigI) wr ∧ Below B w wr ∧ Lib.OthersKept 5 (some b) w wr);case atStart => exact ⟨0, by omega, rfl, by simpa using HS0.out, HB0.out, HO0.out⟩
 case round =>
  clear HS0 HB0 HO0;obtain ⟨k, hk, rfl, hW1, hB1, hO1⟩ := hrel;obtain ⟨w1, rfl⟩ : ∃ w1, w1 = wr := ⟨_, rfl⟩;have HK := hid hk;have HS1 := hid hW1;have HB1 := hid hB1;have HO1 := hid hO1;have hle : k ≤ n := by omega
  clear hk hW1 hB1 hO1;have HNl := hid (numT_len (L.take k) (i64s_take HI.out k));by_cases hlt : k < n
  · have hlt' : k < L.length := by rw [HN.out]; exact hlt
    obtain ⟨ad, rfl, hpa, q0⟩ := HZ.out w1 HB1.out HO1.out k hlt';have HE := hid (show acc ++ s.data.toList ++ (L.take (k + 1)).flatMap numT = (acc ++ s.data.toList ++ (L.take k).flatMap numT) ++ numT L[k] by rw [numT_snoc L k hlt']; simp);have HAn := hid (show (bad || (L.take (k + 1)).any bigI) = ((bad || (L.take k).any bigI) || bigI L[k]) by rw [any_big L k hlt', Bool.or_assoc]);obtain ⟨hx1, hx2⟩ := HI.out _ (List.getElem_mem hlt');have hxl := Lib.itoa_length_le L[k] hx1 hx2;have hlk : (L.take k).length = k := by rw [List.length_take]; omega
    rw [hlk] at HNl;generalize L[k] = x at *;have HIt := hid (fun w ht => itoa_any x w hx1 hx2 ht);obtain ⟨y, hy⟩ : ∃ y : ByteArray, y = ⟨(Lib.itoa x).toArray⟩ := ⟨_, rfl⟩;have HYd := hid (show y.data.toList = Lib.itoa x by rw [hy]);have hys : y.size ≤ 21 := by rw [hy]; show (Lib.itoa x).toArray.size ≤ 21; rw [List.size_toArray]; exact hxl
    rw [← hy] at HIt;have hys2 : (y.size : Int) ≤ 21 := by omega
    have hys3 : ¬ 9223372036854775807 < 1 + y.size := by omega
    have HSz := hid (show (acc ++ s.data.toList ++ (L.take k).flatMap numT).length + ((⟨#[32]⟩ : ByteArray) ++ y).size ≤ 140737488355328 by
     rw [ByteArray.size_append, List.length_append, List.length_append];show acc.length + s.data.toList.length + _ + (1 + y.size) ≤ _;have h1 := HNl.out;have h2 := HSs.out;have h3 : s.data.toList.length = s.size := by simp
     omega)
    generalize (acc ++ s.data.toList ++ (L.take k).flatMap numT) = ac2 at *;obtain ⟨m0, m1⟩ := HS1.out.bad;generalize (bad || (L.take k).any bigI) = bd at *;clear hy hx1 hx2 hlt' hxl hlk;have bshow : ∀ d1 d2 : Bool, decide (x < -1048576) = d1 → decide (1048576 < x) = d2 → bigI x = (d1 || d2) := fun d1 d2 h1 h2 => by unfold bigI; rw [h1, h2]
    have HSh := hid bshow;clear bshow;by_cases hx3 : x < -1048576
    · have p1 : decide (x < -1048576) = true := by simpa using hx3
      cases bd with
      | true =>
       have HBg := hid (show bigI x = true by rw [HSh.out _ _ p1 rfl]; simp);have HS2 := hid (HS1.out.mark (true));have HB2 := hid (HB1.out.setCell (p := ⟨b, 2, none⟩) HBb.out (.bool (true)));have HO2 := hid (HO1.out.setCell ⟨b, 2, none⟩ rfl (.bool (true)));clear hx3
       go_upto_region 5 with (fail)
       clear m0 m1 q0 HS1 HB1 HO1;generalize w1.setCell ⟨b, 2, none⟩ (.bool true) = w2 at *;refine wp_region_held_drew (S := fun _ => True) (by kernel_rfl) trivial (fun hHeld => ?_);have hbd : Below w2.heap.size w2 w2.drew := (Below.refl _ _).drew;have HS3 := hid (HS2.out.below hbd);have HB3 := hid (HB2.out.trans (hbd.mono (Nat.le_trans HBw.out HB2.out.size)));have HO3 := hid (HO2.out.trans (kept_below hbd));have HTr3 := hid (HT.out _ HB3.out);clear hbd HS2 HB2 HO2;generalize w2.drew = w3 at *;refine tkH 0 ?_;(try go_simp);refine tkH 1 ?_;(try go_simp);refine tkH 2 ?_;(try go_simp);refine tkH 3 ?_;(try go_simp);refine tkR 4 (fun K9 hK => ?_);go_simp;((refine (HIt.out w3 HTr3.out).mono ?_); rintro e w4 ⟨rfl, hb4⟩)
       refine hK.out _ _ trivial (fun hHeld => ?_);clear hK K9;try go_simp
       have HS4 := hid (HS3.out.below hb4);have HB4 := hid (HB3.out.trans (hb4.mono (Nat.le_trans HBw.out HB3.out.size)));have HO4 := hid (HO3.out.trans (kept_below hb4));clear hb4 HS3 HB3 HO3 HTr3;refine tkH 5 ?_;(try go_simp);refine tkR 6 (fun K9 hK => ?_);go_simp;((refine (wString_any B b _ _ _ w4 HS4.out HSz.out (by have := HB4.out.size; have := HBw.out; omega)).mono ?_); rintro e w5 ⟨rfl, hW5, hB5, hO5⟩)
       refine hK.out _ _ trivial (fun hHeld => ?_);clear hK K9;try go_simp
       have HS5 := hid hW5;have HB5 := hid (HB4.out.trans hB5);have HO5 := hid (HO4.out.trans hO5);clear hW5 hB5 hO5 HS4 HB4 HO4;refine wpAnyH_done (by kernel_rfl) ?_ _;clear hHeld;go_wp2_with fail;go_roundg (gk - 1);case measure => have := HK.out; omega
       case rel => exact ⟨k + 1, by have := HK.out; omega, by go_num, by rw [HE.out, HAn.out, HBg.out]; simpa [numT, HYd.out] using HS5.out, HB5.out, HO5.out⟩
      | false =>
       have HBg := hid (show bigI x = true by rw [HSh.out _ _ p1 rfl]; simp);have HS2 := hid (HS1.out.mark (true));have HB2 := hid (HB1.out.setCell (p := ⟨b, 2, none⟩) HBb.out (.bool (true)));have HO2 := hid (HO1.out.setCell ⟨b, 2, none⟩ rfl (.bool (true)));clear hx3
       go_upto_region 5 with (fail)
       clear m0 m1 q0 HS1 HB1 HO1;generalize w1.setCell ⟨b, 2, none⟩ (.bool true) = w2 at *;refine wp_region_held_drew (S := fun _ => True) (by kernel_rfl) trivial (fun hHeld => ?_);have hbd : Below w2.heap.size w2 w2.drew := (Below.refl _ _).drew;have HS3 := hid (HS2.out.below hbd);have HB3 := hid (HB2.out.trans (hbd.mono (Nat.le_trans HBw.out HB2.out.size)));have HO3 := hid (HO2.out.trans (kept_below hbd));have HTr3 := hid (HT.out _ HB3.out);clear hbd HS2 HB2 HO2;generalize w2.drew = w3 at *;refine tkH 0 ?_;(try go_simp);refine tkH 1 ?_;(try go_simp);refine tkH 2 ?_;(try go_simp);refine tkH 3 ?_;(try go_simp);refine tkR 4 (fun K9 hK => ?_);go_simp;((refine (HIt.out w3 HTr3.out).mono ?_); rintro e w4 ⟨rfl, hb4⟩)
       refine hK.out _ _ trivial (fun hHeld => ?_);clear hK K9;try go_simp
       have HS4 := hid (HS3.out.below hb4);have HB4 := hid (HB3.out.trans (hb4.mono (Nat.le_trans HBw.out HB3.out.size)));have HO4 := hid (HO3.out.trans (kept_below hb4));clear hb4 HS3 HB3 HO3 HTr3;refine tkH 5 ?_;(try go_simp);refine tkR 6 (fun K9 hK => ?_);go_simp;((refine (wString_any B b _ _ _ w4 HS4.out HSz.out (by have := HB4.out.size; have := HBw.out; omega)).mono ?_); rintro e w5 ⟨rfl, hW5, hB5, hO5⟩)
       refine hK.out _ _ trivial (fun hHeld => ?_);clear hK K9;try go_simp
       have HS5 := hid hW5;have HB5 := hid (HB4.out.trans hB5);have HO5 := hid (HO4.out.trans hO5);clear hW5 hB5 hO5 HS4 HB4 HO4;refine wpAnyH_done (by kernel_rfl) ?_ _;clear hHeld;go_wp2_with fail;go_roundg (gk - 1);case measure => have := HK.out; omega
       case rel => exact ⟨k + 1, by have := HK.out; omega, by go_num, by rw [HE.out, HAn.out, HBg.out]; simpa [numT, HYd.out] using HS5.out, HB5.out, HO5.out⟩
    · have p1 : decide (x < -1048576) = false := by simpa using hx3
      by_cases hx4 : 1048576 < x
      · have p2 : decide (1048576 < x) = true := by simpa using hx4
        cases bd with
        | true =>
         have HBg := hid (show bigI x = true by rw [HSh.out _ _ p1 p2]; rfl);have HS2 := hid (HS1.out.mark (true));have HB2 := hid (HB1.out.setCell (p := ⟨b, 2, none⟩) HBb.out (.bool (true)));have HO2 := hid (HO1.out.setCell ⟨b, 2, none⟩ rfl (.bool (true)));clear hx3 hx4
         go_upto_region 5 with (fail)
         clear m0 m1 q0 HS1 HB1 HO1;generalize w1.setCell ⟨b, 2, none⟩ (.bool true) = w2 at *;refine wp_region_held_drew (S := fun _ => True) (by kernel_rfl) trivial (fun hHeld => ?_);have hbd : Below w2.heap.size w2 w2.drew := (Below.refl _ _).drew;have HS3 := hid (HS2.out.below hbd);have HB3 := hid (HB2.out.trans (hbd.mono (Nat.le_trans HBw.out HB2.out.size)));have HO3 := hid (HO2.out.trans (kept_below hbd));have HTr3 := hid (HT.out _ HB3.out);clear hbd HS2 HB2 HO2;generalize w2.drew = w3 at *;refine tkH 0 ?_;(try go_simp);refine tkH 1 ?_;(try go_simp);refine tkH 2 ?_;(try go_simp);refine tkH 3 ?_;(try go_simp);refine tkR 4 (fun K9 hK => ?_);go_simp;((refine (HIt.out w3 HTr3.out).mono ?_); rintro e w4 ⟨rfl, hb4⟩)
         refine hK.out _ _ trivial (fun hHeld => ?_);clear hK K9;try go_simp
         have HS4 := hid (HS3.out.below hb4);have HB4 := hid (HB3.out.trans (hb4.mono (Nat.le_trans HBw.out HB3.out.size)));have HO4 := hid (HO3.out.trans (kept_below hb4));clear hb4 HS3 HB3 HO3 HTr3;refine tkH 5 ?_;(try go_simp);refine tkR 6 (fun K9 hK => ?_);go_simp;((refine (wString_any B b _ _ _ w4 HS4.out HSz.out (by have := HB4.out.size; have := HBw.out; omega)).mono ?_); rintro e w5 ⟨rfl, hW5, hB5, hO5⟩)
         refine hK.out _ _ trivial (fun hHeld => ?_);clear hK K9;try go_simp
         have HS5 := hid hW5;have HB5 := hid (HB4.out.trans hB5);have HO5 := hid (HO4.out.trans hO5);clear hW5 hB5 hO5 HS4 HB4 HO4;refine wpAnyH_done (by kernel_rfl) ?_ _;clear hHeld;go_wp2_with fail;go_roundg (gk - 1);case measure => have := HK.out; omega
         case rel => exact ⟨k + 1, by have := HK.out; omega, by go_num, by rw [HE.out, HAn.out, HBg.out]; simpa [numT, HYd.out] using HS5.out, HB5.out, HO5.out⟩
        | false =>
         have HBg := hid (show bigI x = true by rw [HSh.out _ _ p1 p2]; rfl);have HS2 := hid (HS1.out.mark (true));have HB2 := hid (HB1.out.setCell (p := ⟨b, 2, none⟩) HBb.out (.bool (true)));have HO2 := hid (HO1.out.setCell ⟨b, 2, none⟩ rfl (.bool (true)));clear hx3 hx4
         go_upto_region 5 with (fail)
         clear m0 m1 q0 HS1 HB1 HO1;generalize w1.setCell ⟨b, 2, none⟩ (.bool true) = w2 at *;refine wp_region_held_drew (S := fun _ => True) (by kernel_rfl) trivial (fun hHeld => ?_);have hbd : Below w2.heap.size w2 w2.drew := (Below.refl _ _).drew;have HS3 := hid (HS2.out.below hbd);have HB3 := hid (HB2.out.trans (hbd.mono (Nat.le_trans HBw.out HB2.out.size)));have HO3 := hid (HO2.out.trans (kept_below hbd));have HTr3 := hid (HT.out _ HB3.out);clear hbd HS2 HB2 HO2;generalize w2.drew = w3 at *;refine tkH 0 ?_;(try go_simp);refine tkH 1 ?_;(try go_simp);refine tkH 2 ?_;(try go_simp);refine tkH 3 ?_;(try go_simp);refine tkR 4 (fun K9 hK => ?_);go_simp;((refine (HIt.out w3 HTr3.out).mono ?_); rintro e w4 ⟨rfl, hb4⟩)
         refine hK.out _ _ trivial (fun hHeld => ?_);clear hK K9;try go_simp
         have HS4 := hid (HS3.out.below hb4);have HB4 := hid (HB3.out.trans (hb4.mono (Nat.le_trans HBw.out HB3.out.size)));have HO4 := hid (HO3.out.trans (kept_below hb4));clear hb4 HS3 HB3 HO3 HTr3;refine tkH 5 ?_;(try go_simp);refine tkR 6 (fun K9 hK => ?_);go_simp;((refine (wString_any B b _ _ _ w4 HS4.out HSz.out (by have := HB4.out.size; have := HBw.out; omega)).mono ?_); rintro e w5 ⟨rfl, hW5, hB5, hO5⟩)
         refine hK.out _ _ trivial (fun hHeld => ?_);clear hK K9;try go_simp
         have HS5 := hid hW5;have HB5 := hid (HB4.out.trans hB5);have HO5 := hid (HO4.out.trans hO5);clear hW5 hB5 hO5 HS4 HB4 HO4;refine wpAnyH_done (by kernel_rfl) ?_ _;clear hHeld;go_wp2_with fail;go_roundg (gk - 1);case measure => have := HK.out; omega
         case rel => exact ⟨k + 1, by have := HK.out; omega, by go_num, by rw [HE.out, HAn.out, HBg.out]; simpa [numT, HYd.out] using HS5.out, HB5.out, HO5.out⟩
      · have p2 : decide (1048576 < x) = false := by simpa using hx4
        cases bd with
        | true =>
         have HBg := hid (show bigI x = false by rw [HSh.out _ _ p1 p2]; rfl);have HS2 := hid (HS1.out.mark (true));have HB2 := hid (HB1.out.setCell (p := ⟨b, 2, none⟩) HBb.out (.bool (true)));have HO2 := hid (HO1.out.setCell ⟨b, 2, none⟩ rfl (.bool (true)));clear hx3 hx4
         go_upto_region 5 with (fail)
         clear m0 m1 q0 HS1 HB1 HO1;generalize w1.setCell ⟨b, 2, none⟩ (.bool true) = w2 at *;refine wp_region_held_drew (S := fun _ => True) (by kernel_rfl) trivial (fun hHeld => ?_);have hbd : Below w2.heap.size w2 w2.drew := (Below.refl _ _).drew;have HS3 := hid (HS2.out.below hbd);have HB3 := hid (HB2.out.trans (hbd.mono (Nat.le_trans HBw.out HB2.out.size)));have HO3 := hid (HO2.out.trans (kept_below hbd));have HTr3 := hid (HT.out _ HB3.out);clear hbd HS2 HB2 HO2;generalize w2.drew = w3 at *;refine tkH 0 ?_;(try go_simp);refine tkH 1 ?_;(try go_simp);refine tkH 2 ?_;(try go_simp);refine tkH 3 ?_;(try go_simp);refine tkR 4 (fun K9 hK => ?_);go_simp;((refine (HIt.out w3 HTr3.out).mono ?_); rintro e w4 ⟨rfl, hb4⟩)
         refine hK.out _ _ trivial (fun hHeld => ?_);clear hK K9;try go_simp
         have HS4 := hid (HS3.out.below hb4);have HB4 := hid (HB3.out.trans (hb4.mono (Nat.le_trans HBw.out HB3.out.size)));have HO4 := hid (HO3.out.trans (kept_below hb4));clear hb4 HS3 HB3 HO3 HTr3;refine tkH 5 ?_;(try go_simp);refine tkR 6 (fun K9 hK => ?_);go_simp;((refine (wString_any B b _ _ _ w4 HS4.out HSz.out (by have := HB4.out.size; have := HBw.out; omega)).mono ?_); rintro e w5 ⟨rfl, hW5, hB5, hO5⟩)
         refine hK.out _ _ trivial (fun hHeld => ?_);clear hK K9;try go_simp
         have HS5 := hid hW5;have HB5 := hid (HB4.out.trans hB5);have HO5 := hid (HO4.out.trans hO5);clear hW5 hB5 hO5 HS4 HB4 HO4;refine wpAnyH_done (by kernel_rfl) ?_ _;clear hHeld;go_wp2_with fail;go_roundg (gk - 1);case measure => have := HK.out; omega
         case rel => exact ⟨k + 1, by have := HK.out; omega, by go_num, by rw [HE.out, HAn.out, HBg.out]; simpa [numT, HYd.out] using HS5.out, HB5.out, HO5.out⟩
        | false =>
         have HBg := hid (show bigI x = false by rw [HSh.out _ _ p1 p2]; rfl);have HS2 := hid (HS1.out.mark (false));have HB2 := hid (HB1.out.setCell (p := ⟨b, 2, none⟩) HBb.out (.bool (false)));have HO2 := hid (HO1.out.setCell ⟨b, 2, none⟩ rfl (.bool (false)));clear hx3 hx4
         go_upto_region 5 with (fail)
         clear m0 m1 q0 HS1 HB1 HO1;generalize w1.setCell ⟨b, 2, none⟩ (.bool false) = w2 at *;refine wp_region_held_drew (S := fun _ => True) (by kernel_rfl) trivial (fun hHeld => ?_);have hbd : Below w2.heap.size w2 w2.drew := (Below.refl _ _).drew;have HS3 := hid (HS2.out.below hbd);have HB3 := hid (HB2.out.trans (hbd.mono (Nat.le_trans HBw.out HB2.out.size)));have HO3 := hid (HO2.out.trans (kept_below hbd));have HTr3 := hid (HT.out _ HB3.out);clear hbd HS2 HB2 HO2;generalize w2.drew = w3 at *;refine tkH 0 ?_;(try go_simp);refine tkH 1 ?_;(try go_simp);refine tkH 2 ?_;(try go_simp);refine tkH 3 ?_;(try go_simp);refine tkR 4 (fun K9 hK => ?_);go_simp;((refine (HIt.out w3 HTr3.out).mono ?_); rintro e w4 ⟨rfl, hb4⟩)
         refine hK.out _ _ trivial (fun hHeld => ?_);clear hK K9;try go_simp
         have HS4 := hid (HS3.out.below hb4);have HB4 := hid (HB3.out.trans (hb4.mono (Nat.le_trans HBw.out HB3.out.size)));have HO4 := hid (HO3.out.trans (kept_below hb4));clear hb4 HS3 HB3 HO3 HTr3;refine tkH 5 ?_;(try go_simp);refine tkR 6 (fun K9 hK => ?_);go_simp;((refine (wString_any B b _ _ _ w4 HS4.out HSz.out (by have := HB4.out.size; have := HBw.out; omega)).mono ?_); rintro e w5 ⟨rfl, hW5, hB5, hO5⟩)
         refine hK.out _ _ trivial (fun hHeld => ?_);clear hK K9;try go_simp
         have HS5 := hid hW5;have HB5 := hid (HB4.out.trans hB5);have HO5 := hid (HO4.out.trans hO5);clear hW5 hB5 hO5 HS4 HB4 HO4;refine wpAnyH_done (by kernel_rfl) ?_ _;clear hHeld;go_wp2_with fail;go_roundg (gk - 1);case measure => have := HK.out; omega
         case rel => exact ⟨k + 1, by have := HK.out; omega, by go_num, by rw [HE.out, HAn.out, HBg.out]; simpa [numT, HYd.out] using HS5.out, HB5.out, HO5.out⟩
  · have HX := hid (show L.take k = L from List.take_of_length_le (by rw [HN.out]; omega));rw [HX.out] at HS1;have hlen2 : (acc ++ s.data.toList ++ L.flatMap numT).length + 1 ≤ 140737488355328 := by
     have h1 := HNl.out;rw [HX.out] at h1;have h2 := HSs.out;have h3 : s.data.toList.length = s.size := by simp
     have h4 := HN.out;rw [List.length_append, List.length_append];omega
    have HWb := wByte_any B b _ _ 10 w1 HS1.out hlen2 (by have := HB1.out.size; have := HBw.out; omega);rw [show (((10 : UInt8).toNat : Nat) : Int) = 10 from rfl] at HWb;replace HWb := hid HWb;clear hlen2;go_wp2_with fail;((with_reducible refine HWb.out.mono ?_); rintro e w2 ⟨rfl, hW2, hB2, hO2⟩)
    go_wp2_with fail
    go_end0
    exact ⟨rfl, by unfold lineL; simpa using hW2, HB1.out.trans hB2, HO1.out.trans hO2⟩
theorem lines_snoc (s : List UInt8) (LL : List (List Int)) (k : Nat) (h : k < LL.length) : linesL s (LL.take (k + 1)) = linesL s (LL.take k) ++ lineL s LL[k] := by
 unfold linesL;rw [List.take_succ_eq_append_getElem h, List.flatMap_append]; simp
theorem lines_len (s : List UInt8) (m : Nat) (LL : List (List Int)) (h : ∀ l ∈ LL, i64s l ∧ l.length ≤ m) : (linesL s LL).length ≤ LL.length * (s.length + 22 * m + 1) := by
 induction LL with
 | nil => simp [linesL]
 | cons x l ih =>
  have h1 := ih fun y hy => h y (List.mem_cons_of_mem _ hy)
  have h2 := h x (List.mem_cons_self ..);have h3 := lineL_len s x h2.1;have e : linesL s (x :: l) = lineL s x ++ linesL s l := by simp [linesL]
  rw [e, List.length_append, List.length_cons, Nat.add_mul, Nat.one_mul];have := h2.2;omega
theorem any_bigs (LL : List (List Int)) (k : Nat) (h : k < LL.length) : (LL.take (k + 1)).any (fun l => l.any bigI) = ((LL.take k).any (fun l => l.any bigI) || LL[k].any bigI) := by
 rw [List.take_succ_eq_append_getElem h, List.any_append]; simp
theorem wlines_any (W : World) (b m : Nat) (acc : List UInt8) (bad : Bool) (s : ByteArray) (A : Option Addr) (n c : Nat) (LL : List (List Int)) (w : World) (hW : Wr W.heap.size b acc bad w) (hBw : Below W.heap.size W w) (hBb : W.heap.size ≤ b) (hL : LIn W A LL) (hn : LL.length = n) (hn2 : n ≤ 1000) (hm : m ≤ 1000) (hi : ∀ l ∈ LL, i64s l ∧ l.length ≤ m) (hs : s.size ≤ 1000) (hlen : acc.length ≤ 1000000000) (ht : Tb W) :
 Calls Tryz.prog 111 #[.pointer (some ⟨b, 0, none⟩), .string s, .slice A n c] w fun e w' => e = .returned (.tuple #[]) ∧ Wr W.heap.size b (acc ++ linesL s.data.toList LL) (bad || LL.any (fun l => l.any bigI)) w' ∧ Below W.heap.size W w' := by
 have HL := hid hL;have HN := hid hn;have HI := hid hi;have HT := hid ht;have HB0 := hid hBw;have HBb := hid hBb;have HS0 := hid hW;clear hL hn hi ht hBw hBb hW;go_enter Tryz.func111, Tryz.ntmps111;go_wp2_with fail;go_loopg [10] (n) (fun g iv wr => ∃ k : Nat, k + g = n ∧ iv = .int .i64 (k : Int) ∧ Wr W.heap.size b (acc ++ linesL s.data.toList (LL.take k)) (bad || (LL.take k).any (fun l => l.any bigI)) wr ∧ Below W.heap.size W wr);case atStart => exact ⟨0, by omega, rfl, by simpa [linesL] using HS0.out, HB0.out⟩
 case round =>
  clear HS0 HB0;obtain ⟨k, hk, rfl, hW1, hB1⟩ := hrel;obtain ⟨w1, rfl⟩ : ∃ w1, w1 = wr := ⟨_, rfl⟩;have HK := hid hk;have HS1 := hid hW1;have HB1 := hid hB1;have hle : k ≤ n := by omega
  clear hk hW1 hB1;by_cases hlt : k < n
  · have hlt' : k < LL.length := by rw [HN.out]; exact hlt
    obtain ⟨ad, rfl, hpa, u, q0', Al, nl, cl, rfl, z0, h1, h2, h3⟩ := HL.out k hlt';have q0 := cell_stays HB1.out q0';have HE := hid (lines_snoc s.data.toList LL k hlt');have HAn := hid (any_bigs LL k hlt');have hil := HI.out _ (List.getElem_mem hlt');have hll := lines_len s.data.toList m (LL.take k) (fun l hl => HI.out l (List.mem_of_mem_take hl));have hlk : (LL.take k).length = k := by rw [List.length_take]; omega
    rw [hlk, show s.data.toList.length = s.size by simp] at hll;have hmul : k * (s.size + 22 * m + 1) ≤ 1000 * 23001 := Nat.mul_le_mul (by omega) (by omega);have HCl := hid (wline_any W.heap.size b (acc ++ linesL s.data.toList (LL.take k)) (bad || (LL.take k).any (fun l => l.any bigI)) s Al nl cl LL[k] w1 HS1.out HB1.out.size HBb.out (fun w' hb _ => z0.below (HB1.out.trans hb)) h1 (by omega) hil.1 (by rw [List.length_append]; omega) (fun w' hb => HT.out.below (HB1.out.trans hb)));generalize LL[k] = l0 at *;clear q0' z0 h1 hil hll hlk hmul hlt';go_wp2_with fail;((with_reducible refine HCl.out.mono ?_); rintro e w2 ⟨rfl, hW2, hB2, _⟩)
    have HS2 := hid hW2;have HB2 := hid (HB1.out.trans hB2);clear hW2 hB2 HCl q0;go_wp2_with fail;go_roundg (gk - 1);case measure => have := HK.out; omega
    case rel => exact ⟨k + 1, by have := HK.out; omega, by go_num, by rw [HE.out, HAn.out]; simpa [Bool.or_assoc] using HS2.out, HB2.out⟩
  · have HX := hid (show LL.take k = LL from List.take_of_length_le (by rw [HN.out]; omega));rw [HX.out] at HS1;go_wp2_with fail
    go_end0
    exact ⟨rfl, HS1.out, HB1.out⟩
end Go.Proofs.YtkhmngljpfibcaaGreatDoor
