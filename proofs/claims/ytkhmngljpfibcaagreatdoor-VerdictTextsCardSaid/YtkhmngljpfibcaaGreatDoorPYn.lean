/- awake of the statements of chapter 29: what a call returns. -/
import Derived.Test.YtkhmngljpfibcaaGreatDoorPUu
import Derived.Test.YtkhmngljpfibcaaGreatDoorPYm
namespace Go.Proofs.YtkhmngljpfibcaaGreatDoor
set_option maxRecDepth 100000
set_option maxHeartbeats 6400000
open Go.Lib (hid)
open Go.RowKit

def exN : Nt := ⟨2, [⟨⟨#[97]⟩, [0], [1]⟩], 0, 1⟩
theorem lit_sl (w : World) (Z : List Int) (h : Z.length ≤ 1000000) (cs : Array Value) (hc : cs = (Z.map (Value.int .i64)).toArray) : SlIn (w.alloc (.cells cs 3)) (.slice (some ⟨w.heap.size, 0, none⟩) Z.length Z.length) Z := by
 subst hc;exact ⟨_, _, _, rfl, lit_ints w Z h, rfl, Nat.le_refl _, by omega⟩
theorem lit_ll (w : World) (vs : Array Value) (LL : List (List Int)) (h : ∀ i (hi : i < LL.length), ∃ u, vs[i]? = some u ∧ SlIn w u LL[i]) : LIn (w.alloc (.cells vs 27)) (some ⟨w.heap.size, 0, none⟩) LL := by
 intro i hi;obtain ⟨u, hu, hs⟩ := h i hi;refine ⟨_, rfl, by rw [add_block]; simp, u, ?_, hs.below (below_alloc w _)⟩;rw [add_zero, Nat.zero_add, Lib.cell_of_heap (heap_alloc_new w (.cells vs 27))];exact hu
theorem lit_mv (w : World) (x : Mv) : Rd mvC 3 (w.alloc (.cells #[.int .i64 x.f, .int .i64 x.t, .int .i64 x.s] 113)) (some ⟨w.heap.size, 0, none⟩) [x] := by
 intro i hi;have h0 : i = 0 := by simp at hi; omega
 subst h0;refine ⟨_, rfl, by rw [add_block]; simp, fun j u hj hu => ?_⟩;rw [add_zero, Nat.zero_add, Lib.cell_of_heap (heap_alloc_new w (.cells #[.int .i64 x.f, .int .i64 x.t, .int .i64 x.s] 113))];rw [show 0 * 3 + j = j by omega, ← Array.getElem?_toList];exact hu
theorem lit_tr (w : World) (lb : ByteArray) (u v : Value) (li lo : List Int) (hu : SlIn w u li) (hv : SlIn w v lo) : TIn (w.alloc (.cells #[.string lb, u, v] 79)) (some ⟨w.heap.size, 0, none⟩) [⟨lb, li, lo⟩] := by
 intro i hi;have h0 : i = 0 := by simp at hi; omega
 subst h0;have hh := heap_alloc_new w (.cells #[.string lb, u, v] 79);refine ⟨_, rfl, by rw [add_block]; simp, ?_⟩;rw [Nat.zero_mul, add0];refine ⟨by rw [Lib.cell_of_heap hh]; rfl, ⟨_, by rw [Lib.cell_of_heap hh]; rfl, hu.below (below_alloc w _)⟩, _, by rw [Lib.cell_of_heap hh]; rfl, hv.below (below_alloc w _)⟩
def exW (w : World) : World := ((w.alloc (.cells #[.int .i64 0] 3)).alloc (.cells #[.int .i64 1] 3)).alloc (.cells #[.string ⟨#[97]⟩, .slice (some ⟨w.heap.size, 0, none⟩) 1 1, .slice (some ⟨w.heap.size + 1, 0, none⟩) 1 1] 79)
theorem exW_size (w : World) : (exW w).heap.size = w.heap.size + 1 + 1 + 1 := by unfold exW; simp
theorem exW_below (w : World) : Below w.heap.size w (exW w) := below_then (below_alloc w _) (below_then (below_alloc _ _) (below_alloc _ _))
theorem ex_net (w : World) : NtIn (exW w) (some ⟨w.heap.size + 1 + 1, 0, none⟩) exN := by
 refine ⟨?_, fun t ht => by
  have : t = ⟨⟨#[97]⟩, [0], [1]⟩ := by simpa [exN] using ht
  subst this; decide⟩
 have h1 := lit_sl w [0] (by decide) #[.int .i64 0] rfl;have h2 := lit_sl (w.alloc (.cells #[.int .i64 0] 3)) [1] (by decide) #[.int .i64 1] rfl;rw [World.size_alloc] at h2;have h3 := lit_tr _ ⟨#[97]⟩ _ _ [0] [1] (h1.below (below_alloc (w.alloc (.cells #[.int .i64 0] 3)) (.cells #[.int .i64 1] 3))) h2;rw [World.size_alloc, World.size_alloc] at h3;exact h3
def ceA (w : World) : World := ((w.alloc (.cells #[.int .i64 1, .int .i64 0] 3)).alloc (.cells #[.int .i64 0, .int .i64 1] 3)).alloc (.cells #[.slice (some ⟨w.heap.size, 0, none⟩) 2 2, .slice (some ⟨w.heap.size + 1, 0, none⟩) 2 2] 27)
def ceB (w : World) : World := (ceA w).alloc (.cells #[.int .i64 0, .int .i64 1, .int .i64 0] 113)
def ceW (w : World) : World := ((ceB w).alloc (.cells #[.int .i64 1, .int .i64 0] 3)).alloc (.cells #[.slice (some ⟨w.heap.size + 1 + 1 + 1 + 1, 0, none⟩) 2 2] 27)
theorem ceA_size (w : World) : (ceA w).heap.size = w.heap.size + 1 + 1 + 1 := by unfold ceA; simp
theorem ceB_size (w : World) : (ceB w).heap.size = w.heap.size + 1 + 1 + 1 + 1 := by unfold ceB; rw [World.size_alloc, ceA_size]
theorem ceW_size (w : World) : (ceW w).heap.size = w.heap.size + 1 + 1 + 1 + 1 + 1 + 1 := by unfold ceW; rw [World.size_alloc, World.size_alloc, ceB_size]
theorem ceW_below (w : World) : Below w.heap.size w (ceW w) := below_then (below_then (below_then (below_alloc w _) (below_then (below_alloc _ _) (below_alloc _ _))) (below_alloc _ _)) (below_then (below_alloc _ _) (below_alloc _ _))
theorem ce_in (w : World) : CfM (ceW w) none 0 [] none 0 [] (some ⟨w.heap.size + 1 + 1, 0, none⟩) 2 [[1, 0], [0, 1]] (some ⟨w.heap.size + 1 + 1 + 1, 0, none⟩) 1 [⟨0, 1, 0⟩] none 0 [] (some ⟨w.heap.size + 1 + 1 + 1 + 1 + 1, 0, none⟩) 1 [[1, 0]] := by
 have h1 := lit_sl w [1, 0] (by decide) #[.int .i64 1, .int .i64 0] rfl;have h2 := lit_sl (w.alloc (.cells #[.int .i64 1, .int .i64 0] 3)) [0, 1] (by decide) #[.int .i64 0, .int .i64 1] rfl;rw [World.size_alloc] at h2;have h1' := h1.below (below_alloc (w.alloc (.cells #[.int .i64 1, .int .i64 0] 3)) (.cells #[.int .i64 0, .int .i64 1] 3));have h3 := lit_ll _ #[.slice (some ⟨w.heap.size, 0, none⟩) 2 2, .slice (some ⟨w.heap.size + 1, 0, none⟩) 2 2] [[1, 0], [0, 1]] (fun i hi => by
  match i, hi with
  | 0, _ => exact ⟨_, rfl, h1'⟩
  | 1, _ => exact ⟨_, rfl, h2⟩
  | i + 2, hi => exact absurd hi (by simp only [List.length_cons, List.length_nil]; omega))
 rw [World.size_alloc, World.size_alloc] at h3;have h4 := lit_mv (ceA w) ⟨0, 1, 0⟩;rw [ceA_size] at h4;have h5 := lit_sl (ceB w) [1, 0] (by decide) #[.int .i64 1, .int .i64 0] rfl;rw [ceB_size] at h5;have h6 := lit_ll ((ceB w).alloc (.cells #[.int .i64 1, .int .i64 0] 3)) #[.slice (some ⟨w.heap.size + 1 + 1 + 1 + 1, 0, none⟩) 2 2] [[1, 0]] (fun i hi => by
  match i, hi with
  | 0, _ => exact ⟨_, rfl, h5⟩
  | i + 1, hi => exact absurd hi (by simp only [List.length_cons, List.length_nil]; omega))
 rw [World.size_alloc, ceB_size] at h6;have b1 : Below (ceA w).heap.size (ceA w) (ceB w) := below_alloc _ _;have b2 : Below (ceB w).heap.size (ceB w) (ceW w) := below_then (below_alloc _ _) (below_alloc _ _);exact ⟨fun i hi => by simp at hi, rfl, by decide, fun i hi => by simp at hi, rfl, by decide, (show LIn (ceA w) _ _ from h3).below (below_then b1 b2), rfl, by decide, (show Rd mvC 3 (ceB w) _ _ from h4).below b2, rfl, by decide, fun i hi => by simp at hi, rfl, by decide, h6, rfl, by decide⟩
theorem ex_wf : wfP exN := by
 have h0 : Rch exN false 0 0 := .start;have h1 : Rch exN false 0 1 := .step ⟨⟨#[97]⟩, [0], [1]⟩ 0 1 (by simp [exN]) (by simp [insT]) h0 (by simp [outT]);have g1 : Rch exN true 1 1 := .start;have g0 : Rch exN true 1 0 := .step ⟨⟨#[97]⟩, [0], [1]⟩ 1 0 (by simp [exN]) (by simp [insT]) g1 (by simp [outT]);refine ⟨by decide, rfl, ⟨fun x hx => ?_, fun t ht => ?_⟩, ⟨fun x hx => ?_, fun t ht => ?_⟩⟩
 · have hx' : x < 2 := hx
   match x, hx' with
   | 0, _ => exact h0
   | 1, _ => exact h1
 · have : t = ⟨⟨#[97]⟩, [0], [1]⟩ := by simpa [exN] using ht
   subst this;exact ⟨0, by simp [insT], h0⟩
 · have hx' : x < 2 := hx
   match x, hx' with
   | 0, _ => exact g0
   | 1, _ => exact g1
 · have : t = ⟨⟨#[97]⟩, [0], [1]⟩ := by simpa [exN] using ht
   subst this;exact ⟨1, by simp [insT], g1⟩
theorem ex_chk : ChkP exN 1 0 [] [] [[1, 0], [0, 1]] [⟨0, 1, 0⟩] [] [[1, 0]] := by
 refine ⟨by kernel_rfl, by decide, by decide, by decide, fun _ => ex_wf, Or.inl ⟨rfl, by kernel_rfl⟩⟩
theorem ex_txm : TxM 0 [] [] [[1, 0], [0, 1]] [⟨0, 1, 0⟩] [] [[1, 0]] := by
 refine ⟨by decide, ⟨fun x hx => by simp at hx, by decide⟩, ⟨fun x hx => by simp at hx, by decide⟩, ⟨by decide, fun l hl => ?_⟩, ⟨by decide, fun m hm => ?_⟩, ⟨by decide, fun l hl => by simp at hl⟩, ⟨by decide, fun l hl => ?_⟩⟩
 · have : l = [1, 0] ∨ l = [0, 1] := by simpa using hl
   rcases this with rfl | rfl <;> exact ⟨fun x hx => by simp at hx; omega, by decide⟩
 · have : m = ⟨0, 1, 0⟩ := by simpa using hm
   subst this;exact fun x hx => by simp [mvL] at hx; omega
 · have : l = [1, 0] := by simpa using hl
   subst this;exact ⟨fun x hx => by simp at hx; omega, by decide⟩
def exS : ByteArray := ⟨(textL 0 0 [] [] [[1, 0], [0, 1]] [⟨0, 1, 0⟩] [] [[1, 0]]).toArray⟩
theorem ex_text {w w' : World} {e : Ending} (h : TxPo 1 0 [] [] [[1, 0], [0, 1]] [⟨0, 1, 0⟩] [] [[1, 0]] w e w') : e = .returned (.tuple #[.string exS, .int .i64 0]) ∧ Below w.heap.size w w' := by
 obtain ⟨h1, h2⟩ := h;rw [if_neg (by decide), show badT 0 [] [] [[1, 0], [0, 1]] [⟨0, 1, 0⟩] [] [[1, 0]] = false by kernel_rfl, if_neg (by decide), if_neg (show ¬ 262144 < (textL ((1 : Int) - 1).toNat 0 [] [] [[1, 0], [0, 1]] [⟨0, 1, 0⟩] [] [[1, 0]]).length by
  rw [show (textL ((1 : Int) - 1).toNat 0 [] [] [[1, 0], [0, 1]] [⟨0, 1, 0⟩] [] [[1, 0]]).length = 67 by kernel_rfl]; decide)] at h1
 exact ⟨h1, h2⟩
theorem ex_str : exS = ⟨#[99, 108, 97, 105, 109, 32, 115, 111, 117, 110, 100, 10, 110, 117, 109, 98, 101, 114, 32, 48, 10, 114, 117, 110, 10, 112, 117, 109, 112, 10, 109, 97, 114, 107, 32, 49, 32, 48, 10, 109, 97, 114, 107, 32, 48, 32, 49, 10, 109, 111, 118, 101, 32, 48, 32, 49, 32, 48, 10, 114, 111, 119, 32, 49, 32, 48, 10]⟩ := by kernel_rfl
theorem awake_any (w : World) (ht : Tb w) : Calls Tryz.prog 32 #[] w fun e w' => e = .returned (.bool true) ∧ Below w.heap.size w w' := by
 have HBw := hid (below_then (exW_below w) (below_alloc (exW w) (.cells #[.int .i64 2, .slice (some ⟨w.heap.size + 1 + 1, 0, none⟩) 1 1, .int .i64 0, .int .i64 1] 24)));have HNt := hid ((ex_net w).below (below_alloc (exW w) (.cells #[.int .i64 2, .slice (some ⟨w.heap.size + 1 + 1, 0, none⟩) 1 1, .int .i64 0, .int .i64 1] 24)));have hnb := NB.new (exW w) 2 (some ⟨w.heap.size + 1 + 1, 0, none⟩) 1 1 0 1;rw [exW_size] at hnb;have HNb := hid hnb;have HT := hid (ht.below HBw.out);have hs0 : ((exW w).alloc (.cells #[.int .i64 2, .slice (some ⟨w.heap.size + 1 + 1, 0, none⟩) 1 1, .int .i64 0, .int .i64 1] 24)).heap.size = w.heap.size + 1 + 1 + 1 + 1 := by rw [World.size_alloc, exW_size]
 clear ht hnb;unfold exW at HBw HNt HNb HT hs0;go_enter Tryz.func32, Tryz.ntmps32;go_wp2_with fail;generalize (((w.alloc _).alloc _).alloc _).alloc _ = w0 at *;have hce := ce_in w0;have hcb := ceW_below w0;have hcs := ceW_size w0;unfold ceW ceB ceA at hce hcb hcs;rw [hs0] at hce hcb hcs;have hnew := heap_alloc_new (((((((w0.alloc (.cells #[.int .i64 1, .int .i64 0] 3)).alloc (.cells #[.int .i64 0, .int .i64 1] 3)).alloc (.cells #[.slice (some ⟨w.heap.size + 1 + 1 + 1 + 1, 0, none⟩) 2 2, .slice (some ⟨w.heap.size + 1 + 1 + 1 + 1 + 1, 0, none⟩) 2 2] 27)).alloc (.cells #[.int .i64 0, .int .i64 1, .int .i64 0] 113)).alloc (.cells #[.int .i64 1, .int .i64 0] 3)).alloc (.cells #[.slice (some ⟨w.heap.size + 1 + 1 + 1 + 1 + 1 + 1 + 1 + 1, 0, none⟩) 2 2] 27))) (.cells #[.int .i64 1, .int .i64 0, .slice none 0 0, .slice none 0 0, .slice (some ⟨w.heap.size + 1 + 1 + 1 + 1 + 1 + 1, 0, none⟩) 2 2, .slice (some ⟨w.heap.size + 1 + 1 + 1 + 1 + 1 + 1 + 1, 0, none⟩) 1 1, .slice none 0 0, .slice (some ⟨w.heap.size + 1 + 1 + 1 + 1 + 1 + 1 + 1 + 1 + 1, 0, none⟩) 1 1] 31);rw [hcs] at hnew;generalize ((((((w0.alloc (.cells #[.int .i64 1, .int .i64 0] 3)).alloc (.cells #[.int .i64 0, .int .i64 1] 3)).alloc (.cells #[.slice (some ⟨w.heap.size + 1 + 1 + 1 + 1, 0, none⟩) 2 2, .slice (some ⟨w.heap.size + 1 + 1 + 1 + 1 + 1, 0, none⟩) 2 2] 27)).alloc (.cells #[.int .i64 0, .int .i64 1, .int .i64 0] 113)).alloc (.cells #[.int .i64 1, .int .i64 0] 3)).alloc (.cells #[.slice (some ⟨w.heap.size + 1 + 1 + 1 + 1 + 1 + 1 + 1 + 1, 0, none⟩) 2 2] 27)) = wc at *;have hca := below_alloc wc (.cells #[.int .i64 1, .int .i64 0, .slice none 0 0, .slice none 0 0, .slice (some ⟨w.heap.size + 1 + 1 + 1 + 1 + 1 + 1, 0, none⟩) 2 2, .slice (some ⟨w.heap.size + 1 + 1 + 1 + 1 + 1 + 1 + 1, 0, none⟩) 1 1, .slice none 0 0, .slice (some ⟨w.heap.size + 1 + 1 + 1 + 1 + 1 + 1 + 1 + 1 + 1, 0, none⟩) 1 1] 31);have HCt := hid (show CtB _ (w.heap.size + 1 + 1 + 1 + 1 + 1 + 1 + 1 + 1 + 1 + 1) _ from hnew);have HCf := hid (hce.below hca);have HBc := hid (below_then (show Below w0.heap.size w0 wc by rw [hs0]; exact hcb) hca);have HB1 := hid (below_then HBw.out HBc.out);have HNt1 := hid (HNt.out.below HBc.out);have HNb1 := hid (HNb.out.below HBc.out);have HT1 := hid (HT.out.below HBc.out);clear hce hcb hcs hnew hca hs0 HNt HNb HT HBc HBw;generalize wc.alloc _ = w1 at *;have HTx := hid (vtext_any 1 0 none 0 0 [] none 0 0 [] _ 2 2 _ _ 1 1 _ none 0 0 [] _ 1 1 _ w1 HCf.out HT1.out ex_txm);((with_reducible refine HTx.out.mono ?_); rintro e w2 hP)
 obtain ⟨rfl, hb2⟩ := ex_text hP;rw [ex_str];have HB2 := hid (below_then HB1.out hb2);have HNt2 := hid (HNt1.out.below hb2);have HNb2 := hid (HNb1.out.below hb2);have HT2 := hid (HT1.out.below hb2);have HCf2 := hid (HCf.out.below hb2);have HCt2 := hid (HCt.out.below hb2);clear hP hb2 HTx HB1 HNt1 HNb1 HT1 HCf HCt;obtain ⟨b0, b1, b2, b3⟩ := HNb2.out.cells;obtain ⟨d0, d1, d2, d3, d4, d5, d6, d7⟩ := HCt2.out.cells;have HCk := hid (show Calls Tryz.prog 36 #[.agg #[.int .i64 2, .slice (some ⟨w.heap.size + 1 + 1, 0, none⟩) 1 1, .int .i64 0, .int .i64 1], .agg #[.int .i64 1, .int .i64 0, .slice none 0 0, .slice none 0 0, .slice (some ⟨w.heap.size + 1 + 1 + 1 + 1 + 1 + 1, 0, none⟩) 2 2, .slice (some ⟨w.heap.size + 1 + 1 + 1 + 1 + 1 + 1 + 1, 0, none⟩) 1 1, .slice none 0 0, .slice (some ⟨w.heap.size + 1 + 1 + 1 + 1 + 1 + 1 + 1 + 1 + 1, 0, none⟩) 1 1]] w2 _ from vcheck_any exN _ 1 1 1 0 none 0 0 [] none 0 0 [] _ 2 2 _ _ 1 1 _ none 0 0 [] _ 1 1 _ w2 HT2.out HNt2.out rfl (by decide) HCf2.out (fun I hI => by cases hI));go_wp2_with fail;((with_reducible refine HCk.out.mono ?_); rintro e w3 ⟨⟨q, rfl, hq⟩, hb3⟩)
 have hqt : q = true := hq.2 ex_chk;subst hqt;have HB3 := hid (below_then HB2.out hb3);clear hb3 hq HCk b0 b1 b2 b3 d0 d1 d2 d3 d4 d5 d6 d7;go_wp2_with fail;go_ret;exact ⟨rfl, HB3.out⟩
end Go.Proofs.YtkhmngljpfibcaaGreatDoor
