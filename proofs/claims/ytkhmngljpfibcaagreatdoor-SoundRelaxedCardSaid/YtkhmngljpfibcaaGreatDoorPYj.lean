/- Workflow of reference 21: what a call returns. -/
import Derived.Test.YtkhmngljpfibcaaGreatDoorPUu
import Derived.Test.YtkhmngljpfibcaaGreatDoorPYi
namespace Go.Proofs.YtkhmngljpfibcaaGreatDoor
set_option maxRecDepth 100000
set_option maxHeartbeats 12800000
open Go.Lib (hid)
open Go.RowKit

theorem wfpo {N : Nt} {w w' : World} {q : Bool} (h : q = true ↔ ntB N = true ∧ wfP N) (hb : Below w.heap.size w w') : WfPo N w (.returned (.bool q)) w' := ⟨⟨q, rfl, h⟩, hb⟩
def revN (N : Nt) : Nt := ⟨N.pl, N.tr.map revT, N.snk, N.src⟩
theorem rch_rev {N : Nt} {p x : Nat} : Rch (revN N) false p x ↔ Rch N true p x := by
 constructor
 · intro h
   induction h with
   | start => exact .start
   | step t x y ht hx _ hy ih =>
    obtain ⟨s, hs, rfl⟩ := List.mem_map.1 ht;exact .step s x y hs hx ih hy
 · intro h
   induction h with
   | start => exact .start
   | step t x y ht hx _ hy ih => exact .step (revT t) x y (List.mem_map.2 ⟨t, ht, rfl⟩) hx ih hy
theorem netOk_rev {N : Nt} {m : Nat} (h : netOk N m) : netOk (revN N) m := by
 intro k t ht;have ht' : (N.tr.map revT)[k]? = some t := ht;rw [List.getElem?_map] at ht';cases hs : N.tr[k]? with
 | none => rw [hs] at ht'; cases ht'
 | some s =>
  rw [hs] at ht';have e : revT s = t := by simpa using ht'
  have := h k s hs;rw [← e];exact ⟨this.2, this.1⟩
def bthB (F G : List Int) (i : Nat) : Bool := hasB F (i : Int) && hasB G (i : Int)
def btwB (N : Nt) (F G : List Int) (t : Tr) : Bool := !(hasB t.o N.src) && (!(hasB t.i N.snk) && (someB t.i F && someB t.o G))
theorem some_iff {N : Nt} {b : Bool} {p m : Nat} {F : List Int} (hF : ∀ x : Nat, hasB F (x : Int) = true ↔ Rch N b p x) {l : List Int} (hl : plsOk l m) : someB l F = true ↔ ∃ x : Nat, (x : Int) ∈ l ∧ Rch N b p x := by
 unfold someB;rw [List.any_eq_true];constructor
 · rintro ⟨y, hy, h⟩;have h0 := (hl.1 y hy).1;refine ⟨y.toNat, by rw [Int.toNat_of_nonneg h0]; exact hy, (hF _).1 (by rw [Int.toNat_of_nonneg h0]; exact h)⟩
 · rintro ⟨x, hx, h⟩;exact ⟨_, hx, (hF x).2 h⟩
theorem wf_iff {N : Nt} {F G : List Int} (hv : ntB N = true) (hne : N.src ≠ N.snk) (hF : ∀ x : Nat, hasB F (x : Int) = true ↔ Rch N false N.src.toNat x) (hG : ∀ x : Nat, hasB G (x : Int) = true ↔ Rch N true N.snk.toNat x) :
 ((List.range N.pl.toNat).all (bthB F G) && N.tr.all (btwB N F G)) = true ↔ (ntB N = true ∧ wfP N) := by
 have hok := netOk_of hv (m := N.pl.toNat) (by have := nt_small hv; omega);have hi : ∀ t ∈ N.tr, (someB t.i F = true ↔ ∃ x : Nat, (x : Int) ∈ t.i ∧ Rch N false N.src.toNat x) := fun t ht => some_iff hF (trOk_mem hok ht).1
 have ho : ∀ t ∈ N.tr, (someB t.o G = true ↔ ∃ x : Nat, (x : Int) ∈ t.o ∧ Rch N true N.snk.toNat x) := fun t ht => some_iff hG (trOk_mem hok ht).2
 rw [Bool.and_eq_true, List.all_eq_true, List.all_eq_true];constructor
 · rintro ⟨h1, h2⟩;have h3 : ∀ t ∈ N.tr, hasB t.o N.src = false ∧ hasB t.i N.snk = false ∧ someB t.i F = true ∧ someB t.o G = true := fun t ht => by
    have := h2 t ht;unfold btwB at this;simpa using this
   have h4 : ∀ x, x < N.pl.toNat → hasB F (x : Int) = true ∧ hasB G (x : Int) = true := fun x hx => by
    have := h1 x (List.mem_range.2 hx);unfold bthB at this;simpa using this
   refine ⟨hv, hne, List.all_eq_true.2 fun t ht => ?_, ⟨fun x hx => (hF x).1 (h4 x hx).1, fun t ht => (hi t ht).1 (h3 t ht).2.2.1⟩, ⟨fun x hx => (hG x).1 (h4 x hx).2, fun t ht => (ho t ht).1 (h3 t ht).2.2.2⟩⟩;unfold edgB;rw [(h3 t ht).1, (h3 t ht).2.1]; rfl
 · rintro ⟨_, _, h2, h3, h4⟩;refine ⟨fun x hx => ?_, fun t ht => ?_⟩
   · have hx' := List.mem_range.1 hx;unfold bthB;rw [(hF x).2 (h3.1 x hx'), (hG x).2 (h4.1 x hx')]; rfl
   · have h5 := List.all_eq_true.1 h2 t ht;unfold edgB at h5;simp only [Bool.and_eq_true, Bool.not_eq_true'] at h5;unfold btwB;rw [h5.1, h5.2, (hi t ht).2 (h3.2 t ht), (ho t ht).2 (h4.2 t ht)]; rfl
theorem workflow21_any (N : Nt) (A : Option Addr) (n c : Nat) (w : World) (h : NtIn w A N) (hn : N.tr.length = n) (hn2 : n ≤ 9223372036854775807) :
 Calls Tryz.prog 55 #[.agg #[.int .i64 N.pl, .slice A n c, .int .i64 N.src, .int .i64 N.snk]] w (WfPo N w) := by
 have HB0 := hid (below_alloc w (.cells #[.int .i64 N.pl, .slice A n c, .int .i64 N.src, .int .i64 N.snk] 24));have HNb0 := hid (NB.new w N.pl A n c N.src N.snk);have HIn0 := hid (h.below HB0.out);have HNl := hid hn;clear h hn;have HVd := hid (rvalid_any N A n c (w.alloc (.cells #[.int .i64 N.pl, .slice A n c, .int .i64 N.src, .int .i64 N.snk] 24)) HIn0.out HNl.out hn2);cases hv : ntB N with
 | false =>
  rw [hv] at HVd;have HV0 := hid hv;clear hv;go_enter Tryz.func55, Tryz.ntmps55;go_wp2_with fail;((with_reducible refine HVd.out.mono ?_); rintro e w1 ⟨rfl, hb1⟩)
  have HB1 := hid (HB0.out.trans (hb1.mono HB0.out.size));clear hb1;go_wp2_with fail;go_ret;exact wfpo (by rw [HV0.out]; simp) HB1.out
 | true =>
 rw [hv] at HVd;have HV := hid hv;have hps := nt_small hv;have hpls := nt_src hv;have hn60 : n ≤ 60 := by have := HNl.out; omega
 have hpl40 : N.pl ≤ 40 := hps.2.1;have hpl1 : 1 ≤ N.pl := hps.1;have HOk := hid (netOk_of hv (m := N.pl.toNat) (by omega));have HLen := hid (show ∀ t ∈ N.tr, t.i.length ≤ 1000 ∧ t.o.length ≤ 1000 from fun t ht => by
  have h1 := trOk_mem HOk.out ht;have := pls_len h1.1;have := pls_len h1.2;omega)
 clear hv hps;go_enter Tryz.func55, Tryz.ntmps55;go_wp2_with fail;generalize w.alloc _ = w0 at *;((with_reducible refine HVd.out.mono ?_); rintro e w1 ⟨rfl, hb1⟩)
 have HB1 := hid (HB0.out.trans (hb1.mono HB0.out.size));have HNb1 := hid (HNb0.out.below hb1);have HIn1 := hid (HIn0.out.below hb1);clear HB0 HNb0 HIn0;clear hb1 HVd;by_cases hss : N.src = N.snk
 · have q1 : (N.src == N.snk) = true := by rw [hss]; simp
   obtain ⟨b0, b1, b2, b3⟩ := HNb1.out.cells;have HX := hid (show ¬ wfP N from fun hh => hh.1 hss);clear hss;go_wp2_with fail;go_ret;exact wfpo (by simp [HX.out]) HB1.out
 have q1 : (N.src == N.snk) = false := by rw [beq_eq_false_iff_ne]; exact hss
 have HNe := hid hss;clear hss;have HRh := hid (reach21_any N A n c N.pl.toNat N.src.toNat w1 HIn1.out.1 HNl.out hn60 (by omega) (by omega) HOk.out);rw [Int.toNat_of_nonneg hpls.1] at HRh;obtain ⟨b0, b1, b2, b3⟩ := HNb1.out.cells;go_wp2_with fail;((with_reducible refine HRh.out.mono ?_); rintro e w20 ⟨v20, F, rfl, hS20, hFl, hFr⟩)
 obtain ⟨A20, c20, rfl⟩ := hS20.slice;have hb20 := hS20.2;have HB20 := hid (HB1.out.trans (hb20.mono HB1.out.size));have HNb20 := hid (HNb1.out.below hb20);have HIn20 := hid (HIn1.out.below hb20);clear HB1 HNb1 HIn1;have HF20 := hid (show ZIn w20 A20 F by obtain ⟨A', c', e, hz, _⟩ := hS20.zin; cases e; exact hz);have HFr := hid hFr;have HFl := hid hFl;clear hS20 hb20 HRh hFr hFl q1 b0 b1 b2 b3;go_wp2_with fail;obtain ⟨b0, b1, b2, b3⟩ := HNb20.out.cells;have hbd : Below w20.heap.size w20 w20.drew := (Below.refl _ _).drew;have HB21 := hid (HB20.out.trans (hbd.mono HB20.out.size));have HNb21 := hid (HNb20.out.below hbd);have HIn21 := hid (HIn20.out.below hbd);have HF21 := hid (HF20.out.below hbd);have hS0 := cs4 hbd b0 b1 b2 b3;refine rh4 hS0 (fun hHeld => ?_);clear hS0 hbd b0 b1 b2 b3;clear HB20 HNb20 HIn20 HF20;generalize w20.drew = w21 at *;refine tkH 0 ?_;(try go_simp);refine tkH 2 ?_;(try go_simp);refine tkH 3 ?_;(try go_simp);refine tkR 1 (fun K9 hK => ?_);go_simp;have HRv := hid (reverse21_any N A n c w21 HIn21.out.1 HNl.out hn60 HLen.out);((refine (HRv.out).mono ?_); rintro e w22 ⟨A9, c9, rfl, HT9, hb22⟩)
 have hS9 := hHeld;refine hK.out _ _ (ks4 hb22 hS9) (fun hHeld => ?_);clear hK K9 hS9;try go_simp
 have HB22 := hid (HB21.out.trans (hb22.mono HB21.out.size));have HNb22 := hid (HNb21.out.below hb22);have HIn22 := hid (HIn21.out.below hb22);have HF22 := hid (HF21.out.below hb22);clear HB21 HNb21 HIn21 HF21;have HT22 := hid HT9;clear HT9 HRv;clear hb22;refine tkR 4 (fun K9 hK => ?_);go_simp;have HRh := hid (reach21_any (revN N) A9 n c9 N.pl.toNat N.snk.toNat w22 (show TIn w22 A9 (N.tr.map revT) from HT22.out) (by show (N.tr.map revT).length = n; rw [List.length_map]; exact HNl.out) hn60 (by omega) (by omega) (netOk_rev HOk.out));rw [show (revN N).pl = N.pl from rfl, show (revN N).src = N.snk from rfl, show (revN N).snk = N.src from rfl, Int.toNat_of_nonneg hpls.2.2.1] at HRh;((refine HRh.out.mono ?_); rintro e w23 ⟨v23, G, rfl, hS23, hGl, hGr⟩)
 obtain ⟨A23, c23, rfl⟩ := hS23.slice;have hb23 := hS23.2;have hS9 := hHeld;refine hK.out _ _ (ks4 hb23 hS9) (fun hHeld => ?_);clear hK K9 hS9;try go_simp
 have HB23 := hid (HB22.out.trans (hb23.mono HB22.out.size));have HNb23 := hid (HNb22.out.below hb23);have HIn23 := hid (HIn22.out.below hb23);have HF23 := hid (HF22.out.below hb23);clear HB22 HNb22 HIn22 HF22;have HG23 := hid (show ZIn w23 A23 G by obtain ⟨A', c', e, hz, _⟩ := hS23.zin; cases e; exact hz);have HGr := hid (fun x => (hGr x).trans rch_rev);have HGl := hid hGl;clear hS23 hb23 HRh HT22 hGr hGl;refine tkH 5 ?_;(try go_simp);refine wpAnyH_done (by kernel_rfl) ?_ _;clear hHeld;have HQ := hid (wf_iff HV.out HNe.out HFr.out HGr.out);have hFl := HFl.out;have hGl := HGl.out;clear HFr HGr HFl HGl;have HBl23 := hid (Below.refl w23.heap.size w23);have HG0 := hid HG23.out;have HF0 := hid HF23.out;go_wp2_with fail;go_loopg [5] (N.pl.toNat) (fun g iv wr => ∃ i : Nat, i + g = N.pl.toNat ∧ iv = .int .i64 (i : Int) ∧ (List.range i).all (bthB F G) = true ∧ Below w23.heap.size w23 wr);case atStart => exact ⟨0, by omega, rfl, rfl, HBl23.out⟩
 case round =>
  clear HBl23;obtain ⟨i, hi, rfl, hp, hB⟩ := hrel;have HK := hid hi;have HP := hid hp;have HBl30 := hid hB;have hle : i ≤ N.pl.toNat := by omega
  clear hi hp hB;obtain ⟨w30, rfl⟩ : ∃ w30, w30 = wr := ⟨_, rfl⟩;have HB30 := hid (HB23.out.trans (HBl30.out.mono HB23.out.size));have HNb30 := hid (HNb23.out.below HBl30.out);have HIn30 := hid (HIn23.out.below HBl30.out);by_cases hlt : i < N.pl.toNat
  · have q2 : decide ((i : Int) < N.pl) = true := by simp; omega
    have HSt := hid (range_step (bthB F G) i);have HNo := hid (fun hh => range_no (bthB F G) (n := N.pl.toNat) hlt hh);have HBe := hid (show bthB F G i = (hasB F (i : Int) && hasB G (i : Int)) from rfl);have HH1 := hid (has21_any A20 F.length c20 F (i : Int) w30 (HF0.out.below HBl30.out) rfl (by omega));cases h1 : hasB F (i : Int) with
    | false =>
     rw [h1] at HH1 HBe;clear h1;obtain ⟨b0, b1, b2, b3⟩ := HNb30.out.cells;go_wp2_with fail;((with_reducible refine (HH1.out).mono ?_); rintro e w31 ⟨rfl, hb31⟩)
     have HB31 := hid (HB30.out.trans (hb31.mono HB30.out.size));clear hb31 b0 b1 b2 b3;go_wp2_with fail;go_ret;exact wfpo (by rw [← HQ.out, HNo.out HBe.out]; simp) HB31.out
    | true =>
     rw [h1, Bool.true_and] at HBe;rw [h1] at HH1;clear h1;obtain ⟨b0, b1, b2, b3⟩ := HNb30.out.cells;go_wp2_with fail;((with_reducible refine (HH1.out).mono ?_); rintro e w31 ⟨rfl, hb31⟩)
     have HB31 := hid (HB30.out.trans (hb31.mono HB30.out.size));have HNb31 := hid (HNb30.out.below hb31);have HIn31 := hid (HIn30.out.below hb31);have HBl31 := hid (HBl30.out.trans (hb31.mono HBl30.out.size));clear HB30 HNb30 HIn30 HBl30;clear hb31 b0 b1 b2 b3;have HH2 := hid (has21_any A23 G.length c23 G (i : Int) w31 (HG0.out.below HBl31.out) rfl (by omega));cases h2 : hasB G (i : Int) with
     | false =>
      rw [h2] at HH2 HBe;clear h2;obtain ⟨b0, b1, b2, b3⟩ := HNb31.out.cells;go_wp2_with fail;((with_reducible refine (HH2.out).mono ?_); rintro e w32 ⟨rfl, hb32⟩)
      have HB32 := hid (HB31.out.trans (hb32.mono HB31.out.size));clear hb32 b0 b1 b2 b3;go_wp2_with fail;go_ret;exact wfpo (by rw [← HQ.out, HNo.out HBe.out]; simp) HB32.out
     | true =>
      rw [h2] at HH2 HBe;clear h2;obtain ⟨b0, b1, b2, b3⟩ := HNb31.out.cells;go_wp2_with fail;((with_reducible refine (HH2.out).mono ?_); rintro e w32 ⟨rfl, hb32⟩)
      have HB32 := hid (HB31.out.trans (hb32.mono HB31.out.size));have HNb32 := hid (HNb31.out.below hb32);have HIn32 := hid (HIn31.out.below hb32);have HBl32 := hid (HBl31.out.trans (hb32.mono HBl31.out.size));clear HB31 HNb31 HIn31 HBl31;clear hb32 b0 b1 b2 b3;go_wp2_with fail;go_roundg (gk - 1);case measure => have := HK.out; omega
      case rel => exact ⟨i + 1, by have := HK.out; omega, by go_num, by rw [HSt.out, HP.out, HBe.out]; rfl, HBl32.out⟩
  · have q2 : decide ((i : Int) < N.pl) = false := by simp; omega
    have hE : (List.range N.pl.toNat).all (bthB F G) = true := by
     have := HP.out;rwa [show i = N.pl.toNat by omega] at this
    rw [hE, Bool.true_and] at HQ;obtain ⟨b0, b1, b2, b3⟩ := HNb30.out.cells;go_wp2_with fail;clear b0 b1 b2 b3 q2 hlt hle HK HP hE;go_loopg [6] (n) (fun g iv wr => ∃ k : Nat, k + g = n ∧ iv = .int .i64 (k : Int) ∧ (N.tr.take k).all (btwB N F G) = true ∧ Below w23.heap.size w23 wr);case atStart => exact ⟨0, by omega, rfl, by simp, HBl30.out⟩
    case round =>
     clear HB30 HNb30 HIn30 HBl30;obtain ⟨k, hk, rfl, hp, hB⟩ := hrel;have HK := hid hk;have HP := hid hp;have HBl39 := hid hB;have hkn : k ≤ n := by omega
     clear hk hp hB;obtain ⟨w39, rfl⟩ : ∃ w39, w39 = wr := ⟨_, rfl⟩;have HB39 := hid (HB23.out.trans (HBl39.out.mono HB23.out.size));have HNb39 := hid (HNb23.out.below HBl39.out);have HIn39 := hid (HIn23.out.below HBl39.out);obtain ⟨b0, b1, b2, b3⟩ := HNb39.out.cells;by_cases hlt : k < n
     · have hkt : k < N.tr.length := by rw [HNl.out]; exact hlt
       obtain ⟨ad, rfl, hpa, t0', ⟨u1, t1', s1⟩, u2, t2', s2⟩ := HIn23.out.1 k hkt;have t0 := cell_stays HBl39.out t0';have t1 := cell_stays HBl39.out t1';have t2 := cell_stays HBl39.out t2';have HSt := hid (all_step (btwB N F G) hkt);have HNo := hid (fun hh => all_false (f := btwB N F G) (List.getElem_mem hkt) hh);have HBt := hid (show btwB N F G N.tr[k] = (!(hasB N.tr[k].o N.src) && (!(hasB N.tr[k].i N.snk) && (someB N.tr[k].i F && someB N.tr[k].o G))) from rfl);obtain ⟨hli, hlo⟩ := HLen.out _ (List.getElem_mem hkt);generalize N.tr[k] = T at *;obtain ⟨lb, li, lo⟩ := T;simp only at hli hlo s1 s2 t0 HBt;obtain ⟨Ai, ni, ci, rfl, zi, hi1, hi2, hi3⟩ := s1;obtain ⟨Ao, no, co, rfl, zo, ho1, ho2, ho3⟩ := s2;have HZi := hid zi;have HZo := hid zo;have HIl := hid hi1;have HOl := hid ho1;have hni : ni ≤ 1000 := by omega
       have hno : no ≤ 1000 := by omega
       have HAl := hid (below_alloc w39 (.cells #[.string lb, .slice Ai ni ci, .slice Ao no co] 79));have HTB0 := hid (TB.new w39 lb Ai ni ci Ao no co);clear hkt t0' t1' t2' hi1 ho1 hpa zi zo
       go_upto_region 14 with (fail)
       clear b0 b1 b2 b3 t0 t1 t2;have HB40 := hid (HB39.out.trans (HAl.out.mono HB39.out.size));have HNb40 := hid (HNb39.out.below HAl.out);have HIn40 := hid (HIn39.out.below HAl.out);have HBl40 := hid (HBl39.out.trans (HAl.out.mono HBl39.out.size));obtain ⟨tb, htb⟩ : ∃ tb, w39.heap.size = tb := ⟨_, rfl⟩;rw [htb] at HTB0;have HTB40 := HTB0;simp only [htb];clear htb HAl HTB0;clear HB39 HNb39 HIn39 HBl39;generalize w39.alloc _ = w40 at *;have HH1 := hid (has21_any Ao no co lo N.src w40 (HZo.out.below HBl40.out) HOl.out (by omega));cases h1 : hasB lo N.src with
       | true =>
        rw [h1] at HH1 HBt;clear h1;obtain ⟨b0, b1, b2, b3⟩ := HNb40.out.cells;obtain ⟨t0, t1, t2⟩ := HTB40.out;go_wp2_with fail;((with_reducible refine (HH1.out).mono ?_); rintro e w41 ⟨rfl, hb41⟩)
        have HB41 := hid (HB40.out.trans (hb41.mono HB40.out.size));clear hb41 b0 b1 b2 b3 t0 t1 t2;go_wp2_with fail;go_ret;exact wfpo (by rw [← HQ.out, HNo.out HBt.out]) HB41.out
       | false =>
        rw [h1, Bool.not_false, Bool.true_and] at HBt;rw [h1] at HH1;clear h1;obtain ⟨b0, b1, b2, b3⟩ := HNb40.out.cells;obtain ⟨t0, t1, t2⟩ := HTB40.out;go_wp2_with fail;((with_reducible refine (HH1.out).mono ?_); rintro e w41 ⟨rfl, hb41⟩)
        have HB41 := hid (HB40.out.trans (hb41.mono HB40.out.size));have HNb41 := hid (HNb40.out.below hb41);have HIn41 := hid (HIn40.out.below hb41);have HBl41 := hid (HBl40.out.trans (hb41.mono HBl40.out.size));have HTB41 := hid (HTB40.out.below hb41);clear HB40 HNb40 HIn40 HBl40 HTB40;clear hb41 b0 b1 b2 b3 t0 t1 t2;have HH2 := hid (has21_any Ai ni ci li N.snk w41 (HZi.out.below HBl41.out) HIl.out (by omega));cases h2 : hasB li N.snk with
        | true =>
         rw [h2] at HH2 HBt;clear h2;obtain ⟨b0, b1, b2, b3⟩ := HNb41.out.cells;obtain ⟨t0, t1, t2⟩ := HTB41.out;go_wp2_with fail;((with_reducible refine (HH2.out).mono ?_); rintro e w42 ⟨rfl, hb42⟩)
         have HB42 := hid (HB41.out.trans (hb42.mono HB41.out.size));clear hb42 b0 b1 b2 b3 t0 t1 t2;go_wp2_with fail;go_ret;exact wfpo (by rw [← HQ.out, HNo.out HBt.out]) HB42.out
        | false =>
         rw [h2, Bool.not_false, Bool.true_and] at HBt;rw [h2] at HH2;clear h2;obtain ⟨b0, b1, b2, b3⟩ := HNb41.out.cells;obtain ⟨t0, t1, t2⟩ := HTB41.out;go_wp2_with fail;((with_reducible refine (HH2.out).mono ?_); rintro e w42 ⟨rfl, hb42⟩)
         have HB42 := hid (HB41.out.trans (hb42.mono HB41.out.size));have HNb42 := hid (HNb41.out.below hb42);have HIn42 := hid (HIn41.out.below hb42);have HBl42 := hid (HBl41.out.trans (hb42.mono HBl41.out.size));have HTB42 := hid (HTB41.out.below hb42);clear HB41 HNb41 HIn41 HBl41 HTB41;clear hb42 b0 b1 b2 b3 t0 t1 t2;have HH3 := hid (some21_any Ai ni ci li A20 F.length c20 F w42 (HZi.out.below HBl42.out) HIl.out (by omega) (HF0.out.below HBl42.out) rfl (by omega));cases h3 : someB li F with
         | false =>
          rw [h3] at HH3 HBt;clear h3;obtain ⟨b0, b1, b2, b3⟩ := HNb42.out.cells;obtain ⟨t0, t1, t2⟩ := HTB42.out;go_wp2_with fail;((with_reducible refine (HH3.out).mono ?_); rintro e w43 ⟨rfl, hb43⟩)
          have HB43 := hid (HB42.out.trans (hb43.mono HB42.out.size));clear hb43 b0 b1 b2 b3 t0 t1 t2;go_wp2_with fail;go_ret;exact wfpo (by rw [← HQ.out, HNo.out HBt.out]) HB43.out
         | true =>
          rw [h3, Bool.true_and] at HBt;rw [h3] at HH3;clear h3;obtain ⟨b0, b1, b2, b3⟩ := HNb42.out.cells;obtain ⟨t0, t1, t2⟩ := HTB42.out;go_wp2_with fail;((with_reducible refine (HH3.out).mono ?_); rintro e w43 ⟨rfl, hb43⟩)
          have HB43 := hid (HB42.out.trans (hb43.mono HB42.out.size));have HNb43 := hid (HNb42.out.below hb43);have HIn43 := hid (HIn42.out.below hb43);have HBl43 := hid (HBl42.out.trans (hb43.mono HBl42.out.size));have HTB43 := hid (HTB42.out.below hb43);clear HB42 HNb42 HIn42 HBl42 HTB42;clear hb43 b0 b1 b2 b3 t0 t1 t2;have HH4 := hid (some21_any Ao no co lo A23 G.length c23 G w43 (HZo.out.below HBl43.out) HOl.out (by omega) (HG0.out.below HBl43.out) rfl (by omega));cases h4 : someB lo G with
          | false =>
           rw [h4] at HH4 HBt;clear h4;obtain ⟨b0, b1, b2, b3⟩ := HNb43.out.cells;obtain ⟨t0, t1, t2⟩ := HTB43.out;go_wp2_with fail;((with_reducible refine (HH4.out).mono ?_); rintro e w44 ⟨rfl, hb44⟩)
           have HB44 := hid (HB43.out.trans (hb44.mono HB43.out.size));clear hb44 b0 b1 b2 b3 t0 t1 t2;go_wp2_with fail;go_ret;exact wfpo (by rw [← HQ.out, HNo.out HBt.out]) HB44.out
          | true =>
           rw [h4] at HH4 HBt;clear h4;obtain ⟨b0, b1, b2, b3⟩ := HNb43.out.cells;obtain ⟨t0, t1, t2⟩ := HTB43.out;go_wp2_with fail;((with_reducible refine (HH4.out).mono ?_); rintro e w44 ⟨rfl, hb44⟩)
           have HB44 := hid (HB43.out.trans (hb44.mono HB43.out.size));have HNb44 := hid (HNb43.out.below hb44);have HIn44 := hid (HIn43.out.below hb44);have HBl44 := hid (HBl43.out.trans (hb44.mono HBl43.out.size));have HTB44 := hid (HTB43.out.below hb44);clear HB43 HNb43 HIn43 HBl43 HTB43;clear hb44 b0 b1 b2 b3 t0 t1 t2;go_wp2_with fail;go_roundg (gk - 1);case measure => have := HK.out; omega
           case rel => exact ⟨k + 1, by have := HK.out; omega, by go_num, by rw [HSt.out, HP.out, HBt.out]; rfl, HBl44.out⟩
     · have hE : N.tr.all (btwB N F G) = true := by
        have := HP.out;rwa [List.take_of_length_le (by rw [HNl.out]; omega)] at this
       rw [hE] at HQ;go_wp2_with fail;go_ret;exact wfpo (by simpa using HQ.out) HB39.out
end Go.Proofs.YtkhmngljpfibcaaGreatDoor
