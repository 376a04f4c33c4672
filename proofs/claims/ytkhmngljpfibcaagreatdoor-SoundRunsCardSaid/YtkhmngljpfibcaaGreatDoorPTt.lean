/- awake of the statements of chapter 28: what a call returns. Completes of sound: what a call returns. SoundVerdicts: the walk through the statement. SoundCompletes: the walk through the statement. -/
import Derived.Test.YtkhmngljpfibcaaGreatDoorPUu
import Derived.Test.YtkhmngljpfibcaaGreatDoorPAd
import Derived.Test.YtkhmngljpfibcaaGreatDoorPAf
import Derived.Test.YtkhmngljpfibcaaGreatDoorPYi
import Derived.Test.YtkhmngljpfibcaaGreatDoorPHg
import Derived.Test.YtkhmngljpfibcaaGreatDoorPTr
import Derived.Test.YtkhmngljpfibcaaGreatDoorPAc
import Derived.Test.YtkhmngljpfibcaaGreatDoorPTn
import Derived.Test.YtkhmngljpfibcaaGreatDoorPBz
import Derived.Test.YtkhmngljpfibcaaGreatDoorPBj
namespace Go.Proofs.YtkhmngljpfibcaaGreatDoor
set_option maxRecDepth 100000
set_option maxHeartbeats 12800000
open Go.Lib (hid)
section
open Go.RowKit

theorem lit_irw (w : World) (Z : List Int) (h : Z.length ≤ 1000000) (cs : Array Value) (hc : cs = (Z.map (Value.int .i64)).toArray) : IRw (w.alloc (.cells cs 3)) (.slice (some ⟨w.heap.size, 0, none⟩) Z.length Z.length) Z := by
 subst hc;refine ⟨_, _, rfl, Nat.le_refl _, by omega, .inr ⟨w.heap.size, _, _, rfl, heap_alloc_new w _, fun i hi => ?_⟩⟩;simp [hi]
def aw0 (w : World) : World := (((w.alloc (.cells #[.int .i64 0] 3)).alloc (.cells #[.int .i64 1] 3)).alloc (.cells #[.int .i64 1] 3)).alloc (.cells #[.int .i64 2] 3)
def aw1 (w : World) : World := (aw0 w).alloc (.cells #[.string ⟨#[97]⟩, .slice (some ⟨w.heap.size, 0, none⟩) 1 1, .slice (some ⟨w.heap.size + 1, 0, none⟩) 1 1, .string ⟨#[98]⟩, .slice (some ⟨w.heap.size + 1 + 1, 0, none⟩) 1 1, .slice (some ⟨w.heap.size + 1 + 1 + 1, 0, none⟩) 1 1] 79)
theorem aw0_size (w : World) : (aw0 w).heap.size = w.heap.size + 1 + 1 + 1 + 1 := by unfold aw0; simp
theorem aw1_size (w : World) : (aw1 w).heap.size = w.heap.size + 1 + 1 + 1 + 1 + 1 := by unfold aw1; rw [World.size_alloc, aw0_size]
theorem aw0_below (w : World) : Below w.heap.size w (aw0 w) := below_then (below_alloc w _) (below_then (below_alloc _ _) (below_then (below_alloc _ _) (below_alloc _ _)))
theorem aw1_below (w : World) : Below w.heap.size w (aw1 w) := below_then (aw0_below w) (below_alloc _ _)
theorem aw1_tr (w : World) : OTr w (aw1 w) (.slice (some ⟨w.heap.size + 1 + 1 + 1 + 1, 0, none⟩) 2 2) e28a.tr := by
 have h1 := lit_irw w [0] (by decide) #[.int .i64 0] rfl;have h2 := lit_irw (w.alloc (.cells #[.int .i64 0] 3)) [1] (by decide) #[.int .i64 1] rfl;rw [World.size_alloc] at h2;have h3 := lit_irw ((w.alloc (.cells #[.int .i64 0] 3)).alloc (.cells #[.int .i64 1] 3)) [1] (by decide) #[.int .i64 1] rfl;rw [World.size_alloc, World.size_alloc] at h3;have h4 := lit_irw (((w.alloc (.cells #[.int .i64 0] 3)).alloc (.cells #[.int .i64 1] 3)).alloc (.cells #[.int .i64 1] 3)) [2] (by decide) #[.int .i64 2] rfl;rw [World.size_alloc, World.size_alloc, World.size_alloc] at h4;have b1 := below_alloc (w.alloc (.cells #[.int .i64 0] 3)) (.cells #[.int .i64 1] 3);have b2 := below_alloc ((w.alloc (.cells #[.int .i64 0] 3)).alloc (.cells #[.int .i64 1] 3)) (.cells #[.int .i64 1] 3);have b3 := below_alloc (((w.alloc (.cells #[.int .i64 0] 3)).alloc (.cells #[.int .i64 1] 3)).alloc (.cells #[.int .i64 1] 3)) (.cells #[.int .i64 2] 3);have b4 := below_alloc (aw0 w) (.cells #[.string ⟨#[97]⟩, .slice (some ⟨w.heap.size, 0, none⟩) 1 1, .slice (some ⟨w.heap.size + 1, 0, none⟩) 1 1, .string ⟨#[98]⟩, .slice (some ⟨w.heap.size + 1 + 1, 0, none⟩) 1 1, .slice (some ⟨w.heap.size + 1 + 1 + 1, 0, none⟩) 1 1] 79);have g1 : IRw (aw1 w) _ [0] := IRw.below (show IRw (aw0 w) _ [0] from ((h1.below b1).below b2).below b3) b4;have g2 : IRw (aw1 w) _ [1] := IRw.below (show IRw (aw0 w) _ [1] from (h2.below b2).below b3) b4;have g3 : IRw (aw1 w) _ [1] := IRw.below (show IRw (aw0 w) _ [1] from h3.below b3) b4;have g4 : IRw (aw1 w) _ [2] := IRw.below (show IRw (aw0 w) _ [2] from h4) b4;have hown := World.ownsRow_lit (base := w.heap.size) (e := 79) (size := 3) (aw0 w) #[.string ⟨#[97]⟩, .slice (some ⟨w.heap.size, 0, none⟩) 1 1, .slice (some ⟨w.heap.size + 1, 0, none⟩) 1 1, .string ⟨#[98]⟩, .slice (some ⟨w.heap.size + 1 + 1, 0, none⟩) 1 1, .slice (some ⟨w.heap.size + 1 + 1 + 1, 0, none⟩) 1 1] 2 (by rw [aw0_size]; omega) (by unfold maxLen; omega) rfl;rw [aw0_size] at hown;refine ⟨[⟨⟨#[97]⟩, .slice (some ⟨w.heap.size, 0, none⟩) 1 1, .slice (some ⟨w.heap.size + 1, 0, none⟩) 1 1⟩, ⟨⟨#[98]⟩, .slice (some ⟨w.heap.size + 1 + 1, 0, none⟩) 1 1, .slice (some ⟨w.heap.size + 1 + 1 + 1, 0, none⟩) 1 1⟩], hown, rfl, fun k u t hk ht => ?_, aw1_below w⟩
 match k, hk, ht with
 | 0, hk, ht => cases hk; cases ht; exact ⟨rfl, g1, g2⟩
 | 1, hk, ht => cases hk; cases ht; exact ⟨rfl, g3, g4⟩
 | k + 2, hk, _ => simp at hk
theorem e28a_ok : ∀ t ∈ e28a.tr, t.lb.size ≤ 9223372036854775807 := fun t ht => by
 have : t = ⟨⟨#[97]⟩, [0], [1]⟩ ∨ t = ⟨⟨#[98]⟩, [1], [2]⟩ := by simpa [e28a] using ht
 rcases this with rfl | rfl <;> decide
theorem e28b_ok : ∀ t ∈ e28b.tr, t.lb.size ≤ 9223372036854775807 := fun t ht => by
 have : t = ⟨⟨#[97]⟩, [0], [1]⟩ ∨ t = ⟨⟨#[98]⟩, [1], [2]⟩ ∨ t = ⟨⟨#[99]⟩, [0], [1, 2]⟩ := by simpa [e28b] using ht
 rcases this with rfl | rfl | rfl <;> decide
theorem awake28_any (w : World) (ht : Tb w) : Calls Tryz.prog 9 #[] w fun e w' => e = .returned (.bool true) ∧ Below w.heap.size w w' := by
 have hal := below_alloc (aw1 w) (.cells #[.int .i64 3, .slice (some ⟨w.heap.size + 1 + 1 + 1 + 1, 0, none⟩) 2 2, .int .i64 0, .int .i64 2] 24);have hnb := heap_alloc_new (aw1 w) (.cells #[.int .i64 3, .slice (some ⟨w.heap.size + 1 + 1 + 1 + 1, 0, none⟩) 2 2, .int .i64 0, .int .i64 2] 24);rw [aw1_size] at hnb;have HNo := hid (show NtO _ (w.heap.size + 1 + 1 + 1 + 1 + 1) 3 (.slice (some ⟨w.heap.size + 1 + 1 + 1 + 1, 0, none⟩) 2 2) 0 2 from hnb);have HTr := hid ((aw1_tr w).below hal);have HB := hid (below_then (aw1_below w) hal);have HT := hid (ht.below HB.out);have HT0 := hid ht;have HSz := hid (show w.heap.size ≤ w.heap.size + 1 + 1 + 1 + 1 + 1 by omega);obtain ⟨i0, hi, hz0, hz1, hz2⟩ := info_parts trsInfo;have HI := hid (And.intro hi (And.intro hz0 (And.intro hz1 hz2)));clear hi hz0 hz1 hz2 ht hal hnb;unfold aw1 aw0 at HNo HTr HB HT;go_enter Tryz.func9, Tryz.ntmps9;go_wp2_with fail;generalize (((((w.alloc _).alloc _).alloc _).alloc _).alloc _).alloc _ = w0 at *;generalize w.heap.size + 1 + 1 + 1 + 1 + 1 = nb at *;generalize w.heap.size + 1 + 1 + 1 + 1 = tb at *;obtain ⟨At, ct, hvt, htin⟩ := HTr.out.tin;cases hvt;have HSo := hid (show Calls Tryz.prog 11 #[.agg #[.int .i64 3, .slice (some ⟨tb, 0, none⟩) 2 2, .int .i64 0, .int .i64 2], .int .i64 10] w0 (SoPo e28a 10 w0) from sound_any e28a (some ⟨tb, 0, none⟩) 2 2 10 w0 ⟨htin, e28a_ok⟩ rfl (by decide) HT.out);clear htin;((with_reducible refine HSo.out.mono ?_); rintro e w1 ⟨hb1, ⟨k, rfl, hk⟩ | ⟨T, r, v, rfl, hT, hr, hc⟩⟩)
 · exact absurd hk (fun h => e28a_cov h)
 obtain rfl : r = 0 := e28a_r hT hr;obtain ⟨cl, cn, Ar, nr, cr, R, Ap, np, cp, P, Ak, nk, ck, K, Av, nv, cv, V, As, ns, cs, S, Aw, nw, cw, X, rfl, hcr⟩ := hc;clear hcr;have hd0 : decide ((0 : Int) = 0) = true := rfl;have HNo1 := hid (HNo.out.below hb1);have HTr1 := hid (HTr.out.below hb1);have HB1 := hid (below_then HB.out hb1);have HT1 := hid (HT.out.below hb1);clear HSo hT hr hb1 HNo HTr HB HT;rw [hd0];obtain ⟨b0, b1, b2, b3⟩ := HNo1.out.cells;have hal := below_alloc w1 (.cells #[.int .i64 cl, .int .i64 cn, .slice Ar nr cr, .slice Ap np cp, .slice Ak nk ck, .slice Av nv cv, .slice As ns cs, .slice Aw nw cw] 31);have HNo2 := hid (HNo1.out.below hal);have HTr2 := hid (HTr1.out.below hal);have HB2 := hid (below_then HB1.out hal);have HT2 := hid (HT1.out.below hal)
 go_upto_region 3 with (fail)
 clear hal b0 b1 b2 b3 HNo1 HTr1 HB1 HT1 hd0;generalize w1.alloc (.cells #[.int .i64 cl, .int .i64 cn, .slice Ar nr cr, .slice Ap np cp, .slice Ak nk ck, .slice Av nv cv, .slice As ns cs, .slice Aw nw cw] 31) = w2 at *;obtain ⟨b0, b1, b2, b3⟩ := HNo2.out.cells;have l1 := lit_irw w2 [0] (by decide) #[.int .i64 0] rfl;have l2 := lit_irw (w2.alloc (.cells #[.int .i64 0] 3)) [1, 2] (by decide) #[.int .i64 1, .int .i64 2] rfl;rw [World.size_alloc] at l2;have a1 := below_alloc w2 (.cells #[.int .i64 0] 3);have a2 := below_alloc (w2.alloc (.cells #[.int .i64 0] 3)) (.cells #[.int .i64 1, .int .i64 2] 3);have a3 := below_alloc ((w2.alloc (.cells #[.int .i64 0] 3)).alloc (.cells #[.int .i64 1, .int .i64 2] 3)) (.cells #[.string ⟨#[99]⟩, .slice (some ⟨w2.heap.size, 0, none⟩) 1 1, .slice (some ⟨w2.heap.size + 1, 0, none⟩) 2 2] 79);have a12 := below_then a1 a2;have a123 := below_then a12 a3;have HL1 := hid ((l1.below a2).below a3);have HL2 := hid (l2.below a3);have HNo3 := hid (HNo2.out.below a123);have HTr3 := hid (HTr2.out.below a123);have HB3 := hid (below_then HB2.out a123);have HT3 := hid (HT2.out.below a123);have hc3 := heap_alloc_new ((w2.alloc (.cells #[.int .i64 0] 3)).alloc (.cells #[.int .i64 1, .int .i64 2] 3)) (.cells #[.string ⟨#[99]⟩, .slice (some ⟨w2.heap.size, 0, none⟩) 1 1, .slice (some ⟨w2.heap.size + 1, 0, none⟩) 2 2] 79);simp only [World.size_alloc] at hc3;have HC3 := hid hc3;obtain ⟨SL, o1, o2, o3, o4⟩ := HTr3.out;clear l1 l2 a1 a2 a3 a12 a123 hc3;go_wp2_with (at_builtin; refine wpList_append_own _ rfl _ _ 22 rfl w.heap.size 79 i0 (.agg #[.string ⟨#[]⟩, .slice none 0 0, .slice none 0 0]) 3 64 Tryz.underlying22 HI.out.1 HI.out.2.1 HI.out.2.2.1 HI.out.2.2.2 rfl (by decide) (.slice (some ⟨tb, 0, none⟩) 2 2) _ _ rfl o1 ⟨w2.heap.size + 1 + 1, 0, none⟩ 1 1 [.string ⟨#[99]⟩, .slice (some ⟨w2.heap.size, 0, none⟩) 1 1, .slice (some ⟨w2.heap.size + 1, 0, none⟩) 2 2] rfl rfl ?c1 ?c2 ?c3 ?c4 ?c5 ?_);case c1 => exact news_blk HC3.out
 case c2 => intro u hu; simp at hu; rcases hu with rfl | rfl | rfl <;> rfl
 case c3 => unfold maxLen; show 2 + 1 ≤ _; omega
 case c4 => show (2 + 1) * 64 ≤ _; omega
 case c5 => exact HB3.out.size
 intro v7 w7 hown7 hgrow7 _;have HTr7 := hid (OTr.push (x := ⟨⟨#[99]⟩, .slice (some ⟨w2.heap.size, 0, none⟩) 1 1, .slice (some ⟨w2.heap.size + 1, 0, none⟩) 2 2⟩) (t := ⟨⟨#[99]⟩, [0], [1, 2]⟩) o1 o2 o3 o4 ⟨rfl, HL1.out, HL2.out⟩ hown7 hgrow7);have hnr := row_block o1 HNo3.out (by decide);have HNo7 := hid (show NtO w7 nb 3 _ 0 2 from (hgrow7.block nb HNo3.out.lt hnr).trans HNo3.out);have HB7 := hid (HB3.out.grown hgrow7 HB3.out.size (fun k hk => (o1.lt k hk).1));have HT7 := hid ((HTr3.out.bel).size);clear o1 o2 o3 o4 hown7 hgrow7 hnr HL1 HL2 HC3 HTr2 HTr3 HNo2 HNo3 HB2 HB3 HT7 b0 b1 b2 b3;obtain ⟨A7, c7, hv7, _⟩ := HTr7.out.tin;have hv9 : v7 = .slice A7 3 c7 := hv7;clear hv7;subst hv9;obtain ⟨b0, b1, b2, b3⟩ := HNo7.out.cells;have bf1 := HNo7.out.soft 1;have HNo8 := hid (show NtO (w7.setCell ⟨nb, 1, none⟩ (.slice A7 3 c7)) nb 3 (.slice A7 3 c7) 0 2 by unfold NtO; rw [heap_set2 HNo7.out]; rfl);have HTr8 := hid (HTr7.out.box (o := 1) HNo7.out (by decide) (by decide) HSz.out (.slice A7 3 c7));have HB8 := hid (HB7.out.setCell (p := ⟨nb, 1, none⟩) HSz.out (.slice A7 3 c7))
 go_upto_region 4 with (fail)
 generalize w7.setCell ⟨nb, 1, none⟩ _ = w8 at *;clear b0 b1 b2 b3 bf1 HNo7 HTr7 HB7;have HT8 := hid (HT0.out.below HB8.out);obtain ⟨b0, b1, b2, b3⟩ := HNo8.out.cells;obtain ⟨At8, ct8, hvt8, htin8⟩ := HTr8.out.tin;cases hvt8;have HRs := hid (show Calls Tryz.prog 12 #[.agg #[.int .i64 3, .slice A7 3 c7, .int .i64 0, .int .i64 2], .int .i64 10] w8 (RsnPo e28b 10 w8) from reason_any e28b A7 3 c7 10 w8 ⟨htin8, e28b_ok⟩ rfl (by decide) HT8.out);clear htin8;go_wp2_with fail;((with_reducible refine HRs.out.mono ?_); rintro e w9 ⟨hb9, ⟨k, rfl, hk⟩ | ⟨T2, r, rfl, hT2, hr2⟩⟩)
 · exact absurd hk (fun h => e28b_cov h)
 obtain rfl : r = 2 := e28b_r hT2 hr2;have HB9 := hid (below_then HB8.out hb9);clear hT2 hr2 hb9 HRs;go_wp2_with fail;go_ret;exact ⟨rfl, HB9.out⟩
end
section
open Go.RowKit

def CmPo (N : Nt) (M : List Int) (most : Int) (w : World) (e : Ending) (w' : World) : Prop :=
 (∃ k : Int, FltM N M true most k ∧ k ≠ 0 ∧ e = .returned (.tuple #[.slice none 0 0, .int .i64 k]) ∧ Below w.heap.size w w') ∨ (FltM N M true most 0 ∧ FvPo (complV N M most.toNat) w e w')
theorem FltM.of_k {N : Nt} {M : List Int} {most k : Int} (hm : mkB N M = true) (h : FltK N true most k) : FltM N M true most k := by
 have hv := mk_nt hm;unfold FltK at h;unfold FltM;rcases h with ⟨h1, _⟩ | ⟨_, h2, h3, h4⟩ | ⟨_, h2, h3, h4⟩ | ⟨_, h2, h3, h4⟩
 · rw [hv] at h1; cases h1
 · exact .inr (.inl ⟨hm, h2, h3, h4⟩)
 · exact .inr (.inr (.inl ⟨hm, h2, h3, h4⟩))
 · exact .inr (.inr (.inr ⟨hm, h2, h3, h4⟩))
theorem scompl_any (N : Nt) (A : Option Addr) (n c : Nat) (Am : Option Addr) (m cm : Nat) (M : List Int) (most : Int) (w : World) (h : NtIn w A N) (hn : N.tr.length = n) (hn2 : n ≤ 9223372036854775806) (hM : ZIn w Am M) (hm : M.length = m) (hm2 : m ≤ 9223372036854775807) :
 Calls Tryz.prog 19 #[.agg #[.int .i64 N.pl, .slice A n c, .int .i64 N.src, .int .i64 N.snk], .slice Am m cm, .int .i64 most] w (CmPo N M most w) := by
 have HB0 := hid (below_alloc w (.cells #[.int .i64 N.pl, .slice A n c, .int .i64 N.src, .int .i64 N.snk] 24));have HNb0 := hid (NB.new w N.pl A n c N.src N.snk);have HIn0 := hid (h.below HB0.out);have HM0 := hid (hM.below HB0.out);have HNl := hid hn;have HMl := hid hm;clear h hn hM hm;go_enter Tryz.func19, Tryz.ntmps19;go_wp2_with fail;generalize w.alloc _ = wa at *;have HEn := hid (penabled_any N A n c Am m cm M wa HIn0.out HNl.out (by omega) HM0.out HMl.out hm2);obtain ⟨b0, b1, b2, b3⟩ := HNb0.out.cells;((with_reducible refine HEn.out.mono ?_); rintro e w1 ⟨v1, rfl, hS1⟩)
 have hb1 := hS1.2;have HB1 := hid (below_then HB0.out hb1);have HNb1 := hid (HNb0.out.below hb1);have HIn1 := hid (HIn0.out.below hb1);have HM1 := hid (HM0.out.below hb1);clear hS1 hb1 HEn HB0 HNb0 HIn0 HM0 b0 b1 b2 b3;cases hmk : mkB N M with
 | false =>
  have he : enE N M = 1 := by unfold enE; rw [hmk]; rfl
  rw [he];have HK := hid (show FltM N M true most 1 from .inl ⟨hmk, rfl⟩);clear he hmk;go_wp2_with fail;go_ret2;exact .inl ⟨1, HK.out, by decide, rfl, HB1.out⟩
 | true =>
  have he : enE N M = 0 := by unfold enE; rw [hmk]; rfl
  rw [he];have HMk := hid hmk;clear he hmk;have HP := hid (proper_any N A n c true most w1 HIn1.out HNl.out hn2);obtain ⟨b0, b1, b2, b3⟩ := HNb1.out.cells;go_wp2_with fail;((with_reducible refine HP.out.mono ?_); rintro e w2 hpr)
  rcases hpr with ⟨k, rfl, hf, hk0, hb2⟩ | ⟨hf, v2, rfl, hS⟩
  · have HF := hid (FltM.of_k HMk.out hf);have HB2 := hid (below_then HB1.out hb2);have q1 : (k != 0) = true := by rw [bne_iff_ne]; exact hk0
    have HK0 := hid hk0;clear hf hb2 hk0 HP b0 b1 b2 b3;go_wp2_with fail;go_ret2;exact .inl ⟨k, HF.out, HK0.out, rfl, HB2.out⟩
  · have HF := hid (FltM.of_k HMk.out hf);obtain ⟨hv, _, hm1, hmo2⟩ := hf.ok;have hb2 := hS.2;have HB2 := hid (below_then HB1.out hb2);have HNb2 := hid (HNb1.out.below hb2);have HIn2 := hid (HIn1.out.below hb2);have HM2 := hid (HM1.out.below hb2);clear hS hb2 HP b0 b1 b2 b3 HB1 HNb1 HIn1 HM1 hf;obtain ⟨mn, hmn⟩ := Int.eq_ofNat_of_zero_le (show 0 ≤ most by omega);subst hmn;have hmx1 : 1 ≤ mn := by omega
    have hmx2 : mn ≤ 2000 := by omega
    have HEx := hid (explore_any N A n c Am m cm M mn w2 HIn2.out HNl.out HM2.out HMl.out HMk.out hmx1 hmx2);have HVd := hid hv;clear hm1 hmo2 hv HM2;obtain ⟨b0, b1, b2, b3⟩ := HNb2.out.cells;go_wp2_with fail;cases hR : exT N M mn with
    | none =>
     rw [hR] at HEx;have HV := hid (show complV N M mn = ([], 13) by unfold complV; rw [hR]);unfold ExPo at HEx;simp only at HEx;((with_reducible refine HEx.out.mono ?_); rintro e w3 ⟨hb3, rfl⟩)
     have HB3 := hid (below_then (below_then HB2.out hb3) (below_alloc w3 (.cells #[.slice none 0 0, .slice none 0 0, .bool false] 41)));clear hb3 HEx hR b0 b1 b2 b3;go_wp2_with fail;go_ret2;exact .inr ⟨HF.out, FvPo.no (by rw [Int.toNat_natCast]; exact HV.out) (by decide) rfl HB3.out⟩
    | some E =>
     rw [hR] at HEx;have HSp := hid (exT_spc HMk.out hmx1 hR);have HMv := hid (exT_mv hR);have HV := hid (show complV N M mn = if 0 ≤ lidx (isL (finM N)) E.SL then pathV E.MV E.SL.length (lidx (isL (finM N)) E.SL).toNat else if E.fl then ([], 10) else ([], 13) by unfold complV; rw [hR]);unfold ExPo at HEx;simp only at HEx;((with_reducible refine HEx.out.mono ?_); rintro e w3 ⟨hb3, vS, vM, rfl, hOl, hOm⟩)
     obtain ⟨SL, MV, fl⟩ := E;simp only at HMv HV hOl hOm;obtain ⟨As, cs, rfl⟩ := hOl.slice;obtain ⟨Av, cv, rfl⟩ := hOm.slice;have hal := below_alloc w3 (.cells #[.slice As SL.length cs, .slice Av MV.length cv, .bool fl] 41);have hsb := heap_alloc_new w3 (.cells #[.slice As SL.length cs, .slice Av MV.length cv, .bool fl] 41);have HSb := hid (show SpB _ w3.heap.size (.slice As SL.length cs) (.slice Av MV.length cv) fl from hsb);have HLn := hid ((oll_lin hOl).below hal);have HRd := hid ((omv_rd hOm).below hal);have HNb := hid ((HNb2.out.below hb3).below hal);have HIn := hid ((HIn2.out.below hb3).below hal);have HB := hid (below_then (below_then HB2.out hb3) hal);have hsl0 : 0 < SL.length := (List.getElem?_eq_some_iff.1 HSp.out.one).1;have hsl1 : SL.length ≤ 2000 := by have := HSp.out.le; simp only at this; omega
     have hmvl : MV.length ≤ 20000 := HMv.out;have HMo := hid (show mvOk MV SL.length from HSp.out.mvf.ok);clear hal hsb hOl hOm hb3 HEx hR HNb2 HIn2 HB2 b0 b1 b2 b3;obtain ⟨b0, b1, b2, b3⟩ := HNb.out.cells;go_wp2_with fail;generalize w3.alloc _ = w4 at *;generalize w3.heap.size = sb at *;have HFn := hid (pfin_any N A n c w4 HIn.out HNl.out (by omega) HVd.out);((with_reducible refine HFn.out.mono ?_); rintro e w5 ⟨vf, rfl, hSf⟩)
     obtain ⟨Af, cf, rfl⟩ := hSf.slice;have HSb5 := hid (HSb.out.below hSf.2);have HLn5 := hid (HLn.out.below hSf.2);have HRd5 := hid (HRd.out.below hSf.2);have HB5 := hid (below_then HB.out hSf.2);have HZf := hid (ns_zin2 hSf);clear hSf HFn HSb HLn HRd HB HNb HIn b0 b1 b2 b3;obtain ⟨s0, s1, s2⟩ := HSb5.out.cells;have HFi := hid (sfind_any As SL.length cs Av MV.length cv fl SL Af (finM N).length cf (finM N) w5 HLn5.out rfl (by omega) HZf.out rfl (by have := fin_le HVd.out; omega));go_wp2_with fail;((with_reducible refine HFi.out.mono ?_); rintro e w6 ⟨rfl, hb6⟩)
     have HSb6 := hid (HSb5.out.below hb6);have HRd6 := hid (HRd5.out.below hb6);have HB6 := hid (below_then HB5.out hb6);clear hb6 HFi HSb5 HLn5 HRd5 HB5 HZf s0 s1 s2;obtain ⟨s0, s1, s2⟩ := HSb6.out.cells;by_cases hk : 0 ≤ lidx (isL (finM N)) SL
     · obtain ⟨kn, hkn, hkl⟩ := lidx_nat hk;have HV2 := hid (show complV N M mn = pathV MV SL.length kn by rw [HV.out, if_pos hk, hkn, Int.toNat_natCast]);rw [hkn];have q1 : decide ((0 : Int) ≤ (kn : Int)) = true := decide_eq_true (by omega);have HPa := hid (spath_any As SL.length cs Av MV.length cv fl MV kn w6 hsl0 hsl1 hmvl rfl HRd6.out HMo.out hkl);rw [← HV2.out] at HPa;clear hk hkn;go_wp2_with fail;((with_reducible refine HPa.out.mono ?_); rintro e w7 hfv)
       rcases hfv.parts with ⟨h0, v, rfl, hS⟩ | ⟨h0, rfl, hb7⟩
       · have HS := hid hS;have H0 := hid h0;clear hS h0 hfv;go_wp2_with fail;go_ret2;exact .inr ⟨HF.out, FvPo.yes (L := (complV N M mn).1) (by rw [Int.toNat_natCast]; exact Prod.ext rfl H0.out) rfl (NS.up HB6.out HS.out)⟩
       · have HB7 := hid hb7;have H0 := hid h0;clear hb7 h0 hfv;go_wp2_with fail;go_ret2;refine .inr ⟨HF.out, ?_⟩;rw [Int.toNat_natCast];unfold FvPo;rw [if_neg H0.out];exact ⟨rfl, below_then HB6.out HB7.out⟩
     · have hk2 : lidx (isL (finM N)) SL < 0 := by omega
       have q1 : decide (0 ≤ lidx (isL (finM N)) SL) = false := decide_eq_false hk;generalize lidx (isL (finM N)) SL = kz at *;cases fl with
       | true =>
        have HV2 := hid (show complV N M mn = ([], 10) by rw [HV.out, if_neg hk]; rfl);clear hk;go_wp2_with fail;go_ret2;exact .inr ⟨HF.out, FvPo.no (by rw [Int.toNat_natCast]; exact HV2.out) (by decide) rfl HB6.out⟩
       | false =>
        have HV2 := hid (show complV N M mn = ([], 13) by rw [HV.out, if_neg hk]; rfl);clear hk;go_wp2_with fail;go_ret2;exact .inr ⟨HF.out, FvPo.no (by rw [Int.toNat_natCast]; exact HV2.out) (by decide) rfl HB6.out⟩
end
section
open Go.RowKit

theorem CovE.uniq {N : Nt} {b : Bool} {most k q : Int} (h : CovE N b most k) (g : CovE N b most q) : k = q := by
 obtain ⟨h0, h1 | ⟨h1, h2, h3⟩⟩ := h <;> obtain ⟨g0, g1 | ⟨g1, g2, g3⟩⟩ := g
 · exact h1.uniq g1
 · exact absurd (h1.uniq g1) h0
 · exact absurd (g1.uniq h1) g0
 · omega
theorem CovE.not {N : Nt} {b : Bool} {most k : Int} {T : TS} (h : CovE N b most k) (g : CovT N b most T) : False := by
 obtain ⟨h0, h1 | ⟨h1, h2, h3⟩⟩ := h
 · exact h0 (h1.uniq g.1)
 · rw [g.2] at h2; cases h2
theorem CovT.uniq {N : Nt} {b : Bool} {most : Int} {T U : TS} (h : CovT N b most T) (g : CovT N b most U) : T = U := by
 have := h.2; rw [g.2] at this; exact (Option.some.inj this).symm
end
section
open Go.RowKit

theorem FltM.uniq {N : Nt} {M : List Int} {work : Bool} {most k q : Int} (h : FltM N M work most k) (g : FltM N M work most q) : k = q := by
 unfold FltM at h g;rcases h with ⟨h1, h2⟩ | ⟨h1, h2, h3, h4⟩ | ⟨h1, h2, h3, h4⟩ | ⟨h1, h2, h3, h4⟩ <;> rcases g with ⟨g1, g2⟩ | ⟨g1, g2, g3, g4⟩ | ⟨g1, g2, g3, g4⟩ | ⟨g1, g2, g3, g4⟩ <;> first | omega | (exfalso; simp_all; done) | (rw [h1] at g1; cases g1) | exact absurd (g2 h2) h3 | exact absurd (h2 g2) g3
end
end Go.Proofs.YtkhmngljpfibcaaGreatDoor
