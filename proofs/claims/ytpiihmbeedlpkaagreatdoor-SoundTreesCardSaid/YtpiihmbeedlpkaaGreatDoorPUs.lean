/- What the rows have in common: the wrap that hands on the world's shape, the listed variables of the library, the witness. SoundTrees: the walk. A tree that came in, as it is read. SoundTrees: for every input the law returns true, and each argument reads afterwards as before. Condition: the row's own (the listed variables of the library read as listed, which the card ties to the program's text). -/
import Derived.Test.YtpiihmbeedlpkaaGreatDoorPUu
import Derived.Test.YtpiihmbeedlpkaaGreatDoorRows
import Derived.Test.YtpiihmbeedlpkaaGreatDoorTie
import Derived.Test.YtpiihmbeedlpkaaGreatDoorCards
import Derived.Test.YtpiihmbeedlpkaaGreatDoorPCg
import Derived.Test.YtpiihmbeedlpkaaGreatDoorPDg
import Derived.Test.YtpiihmbeedlpkaaGreatDoorPUq
import Derived.Test.YtpiihmbeedlpkaaGreatDoorPAh
import Derived.Test.YtpiihmbeedlpkaaGreatDoorPUh
import Derived.Deep.Slices
import Derived.ChangeSame
import Derived.ProofKit
import Derived.LaidMore
import Derived.Lay
import Derived.OpenShut
import Derived.ShutString
import Derived.ChangeOld
import Derived.Stop.Joined
import Derived.Lib.SmallJoins
import Derived.SevenTiedAt
import Derived.HandedShaped
import Derived.Shelf.Vars
import Derived.LaidLaws
import Derived.ChangeMaps5
import Derived.Lib.LaidU8
import Derived.Lib.LaidTab
namespace Go.Proofs.YtpiihmbeedlpkaaGreatDoor
set_option maxRecDepth 100000
set_option maxHeartbeats 12800000
open Go.Lib (hid)
section
open Go.ChangeShapes Go.WideShapes Go.ChangeAt Go.WideMaps Go.WideElems Go.RowKit Go.Deep

theorem own_knob : ownKnob Tryz.prog.godebug = none := by kernel_rfl
theorem laid_out : laidOutB Tryz.prog = true := by kernel_rfl
theorem handed_of_change_both {H : Type} {enc : TypeId × Value → H} {a : Assume} {C : Checked} {os : Os} {f : FuncId} {fn : Func} {s : ChangeSpec} {conds : List PathCond} {apart fresh handsOn again : Bool} {X : World → Array Value → Prop}
 (hX : ∀ (w w' : World) (args : Array Value), w.heap = w'.heap → X w args → X w' args)
 (own : ownKnob C.prog.godebug = none) (started : os.Started) (noInit : C.prog.inits.idxOf? f = none) (hfn : C.prog.funcs[f]? = some fn)
 (witness : ∃ (w : World) (tape : Tape) (i : Input), w.os = os ∧ (w.forCall tape i).Shaped C.prog ∧ i.vars = [] ∧ Input.okWide C.prog (w.forCall tape i) .any w.heap.size f i ∧
  ((s.pre enc C.prog fn conds apart (w.forCall tape i).memory i.args ∧ X (w.forCall tape i).memory i.args) ∧ sizedMet enc C.prog fn (OpenSpec.ofChange s) apart (w.forCall tape i).memory i.args) ∧ a.holds C.prog (lone (Frame.enter C.prog f i.args .normal) [] (w.forCall tape i)))
 (contract : ∀ (W : World) (base : Nat) (args : Array Value) (ds gs : List (DataW H)) (before : List MemPlace),
  (∀ (j : Nat) t v, fn.params[j]? = some t → args[j]? = some v → Value.okWide C.prog W .any base t v) →
  DataW.Whole enc C.prog fn.params.toList s.vars apart W args.toList ds gs before →
  conds.all (PathCond.test C.prog ⟨fn.params.toList, ds, s.plain.varTypes C.prog, gs⟩) = true →
  (DataW.weightsEach C.prog (fn.params.toList ++ s.plain.varTypes C.prog) (ds ++ gs)).all (· ≤ reachBytes) = true → X W args → W.ShapedOpen C.prog →
  a.holds C.prog (lone (Frame.enter C.prog f args .normal) [] W) →
  Calls C.prog f args W fun e W' => ∃ v, e = .returned v ∧ s.post enc C.prog fn apart fresh handsOn again W args v W') :
 ReturnsInHanded a C os f .any (fun w args => (s.pre enc C.prog fn conds apart w args ∧ X w args) ∧ sizedMet enc C.prog fn (OpenSpec.ofChange s) apart w args) (s.post enc C.prog fn apart fresh handsOn again) := by
 refine returnsInHanded_of_calls own started noInit witness ?_;intro w tape i _ hsh _ hok hpre hholds;obtain ⟨_, _, _, fn', hfn', _, _, _, _, hval⟩ := hok;have e : fn' = fn := Option.some.inj (hfn'.symm.trans hfn);subst e;obtain ⟨⟨⟨ds, gs, before, hw, hc⟩, hx⟩, hz⟩ := hpre;have hw' := DataW.Whole.of_heap (w' := w.forCall tape i) (by rfl) hw;refine (contract (w.forCall tape i) w.heap.size i.args ds gs before hval hw' hc (hz.weights hw) (hX _ _ _ (by rfl) hx) hsh hholds).mono fun e W' ⟨v, he, hp⟩ => ?_
 subst he;exact ChangeSpec.post_blind hp
theorem t_pow : (Tryz.prog.globals[0]?).map (·.type) = some 149 := by kernel_rfl
theorem pow_data {H : Type} : (Rows.laid_internal_strconv_uint64pow10 : DataW H) = Lib.tabData .u64 Lib.pow10Tab := by rfl
theorem reads_in {l : List (String × DataW Unit)} {W : World} (h : laidMetH Tryz.prog l W) (hp : (l.all fun x => x.2.handleName?.isNone) = true) {n : String} {d : DataW Unit} (hm : (n, d) ∈ l) : Lib.VarReads Tryz.prog W n d := by
 rw [MakeChecks.laidMetH_plain _ _ _ hp] at h;exact Lib.laidMet.reads h hm
theorem tb_in {W : World} (h : Lib.VarReads Tryz.prog W "internal/strconv.uint64pow10" Rows.laid_internal_strconv_uint64pow10) : Tb W := by
 obtain ⟨g2, t2, cs2, f2, p2, hg2, ht2, hv2, hd2⟩ := h;obtain rfl := Option.some.inj (gPow.symm.trans hg2);obtain rfl := Option.some.inj (t_pow.symm.trans ht2);unfold Tb Lib.TabIs;rw [pow_data] at hd2;rw [hv2, ← Lib.cells_of_tab Tryz.underlying149 Tryz.underlying143 (by kernel_rfl) (by kernel_rfl) hd2]
theorem c_int : Tryz.prog.cellsOf 3 = 1 := by kernel_rfl
theorem c_str : Tryz.prog.cellsOf 9 = 1 := by kernel_rfl
instance : Inhabited Int := ⟨0⟩
instance : Inhabited Tr := ⟨⟨⟨#[]⟩, [], []⟩⟩
end
section
open Go.RowKit

theorem soundTrees_walk (c0 c1 c2 : Value) (t : Tre) (w : World) (ht : Tb w) (h : TrM w t c0 c1 c2) :
 Calls Tryz.prog 3 #[.agg #[c0, c1, c2]] w fun e w' => e = .returned (.bool true) ∧ Below w.heap.size w w' := by
 obtain ⟨op, act, l⟩ := t;obtain ⟨Aa, na, ca, rfl, rfl, rfl, hop, hac, hl, hnc, hcm, hL⟩ := h.out;generalize hte : Tre.mk op act l = t at *;have hal := below_alloc w (.cells #[.int .i64 op, .string act, .slice Aa na ca] 24);have HB0 := hid hal;have HX0 := hid (TBx.new w (.int .i64 op) (.string act) (.slice Aa na ca));have HT0 := hid (ht.below hal);have HM0 := hid (TrM.below hal _ _ _ _ h);clear h hop hac hl hnc hcm hL hte hal ht;go_enter Tryz.func3, Tryz.ntmps3;have HAw := hid (awake28_any _ HT0.out);go_wp2_with fail;generalize hw0 : w.alloc (.cells #[.int .i64 op, .string act, .slice Aa na ca] 24) = w0 at *;clear hw0;((with_reducible refine (HAw.out).mono ?_); rintro e w1 ⟨rfl, hb1⟩)
 clear HAw;have HB1 := hid (below_then HB0.out hb1);have HX1 := hid (HX0.out.below hb1);have HT1 := hid (HT0.out.below hb1);have HM1 := hid (TrM.below hb1 _ _ _ _ HM0.out);clear HB0 HX0 HT0 HM0 hb1;obtain ⟨b0, b1, b2⟩ := HX1.out.cells;have HCo := hid (lcount28_any _ t (Nat.le_refl _) _ _ _ 10 1 w1 HM1.out (by omega) (by omega) (by omega) (by omega));go_wp2_with fail;((with_reducible refine (HCo.out).mono ?_); rintro e w2 ⟨r, rfl, hr1, hr2, hb2⟩)
 clear HCo b0 b1 b2;have HB2 := hid (below_then HB1.out hb2);have HX2 := hid (HX1.out.below hb2);have HT2 := hid (HT1.out.below hb2);have HM2 := hid (TrM.below hb2 _ _ _ _ HM1.out);clear HB1 HX1 HT1 HM1 hb2;by_cases h10 : 10 ≤ r
 · have q10 : decide ((10 : Int) ≤ r) = true := decide_eq_true h10;have HAw := hid (awake28_any w2 HT2.out);go_wp2_with fail;((with_reducible refine (HAw.out).mono ?_); rintro e w3 ⟨rfl, hb3⟩)
   have HF := hid (below_then HB2.out hb3);go_wp2_with fail;go_ret;exact ⟨rfl, HF.out⟩
 · have q10 : decide ((10 : Int) ≤ r) = false := decide_eq_false h10;obtain ⟨b0, b1, b2⟩ := HX2.out.cells;have HVa := hid (rvalidT_any t _ _ _ w2 HM2.out);go_wp2_with fail;((with_reducible refine (HVa.out).mono ?_); rintro e w3 ⟨q, rfl, hb3⟩)
   clear HVa b0 b1 b2;have HB3 := hid (below_then HB2.out hb3);have HX3 := hid (HX2.out.below hb3);have HT3 := hid (HT2.out.below hb3);have HM3 := hid (TrM.below hb3 _ _ _ _ HM2.out);clear HB2 HX2 HT2 HM2 hb3;cases q with
   | false =>
    have HAw := hid (awake28_any w3 HT3.out);go_wp2_with fail;((with_reducible refine (HAw.out).mono ?_); rintro e w4 ⟨rfl, hb4⟩)
    have HF := hid (below_then HB3.out hb4);go_wp2_with fail;go_ret;exact ⟨rfl, HF.out⟩
   | true =>
    obtain ⟨b0, b1, b2⟩ := HX3.out.cells;have HFt := hid (fromTree_any t _ _ _ w3 HM3.out);go_wp2_with fail;((with_reducible refine (HFt.out).mono ?_); rintro e w4 ⟨⟨A, n, c, rfl, ho, hv, hin, hn⟩ | ⟨k, hk, rfl⟩, hb4⟩)
    · have HTs := hid (fun (w : World) (e : Ending) (w' : World) (h : SoPo (trN t) 400 w e w') => tree_sound ho hv h);have HTr := hid (fun (w : World) (e : Ending) (w' : World) (h : RlxPo (trN t) 400 w e w') => tree_relax ho hv h);have hnl : n ≤ 60 := by
       unfold ntB at hv;simp only [Bool.and_eq_true, decide_eq_true_eq] at hv;omega
      generalize trN t = N at *;have hal := below_alloc w4 (.cells #[.int .i64 N.pl, .slice A n c, .int .i64 N.src, .int .i64 N.snk] 30);have HN5 := hid (NB.new w4 N.pl A n c N.src N.snk);have HI5 := hid (hin.below hal);have HB5 := hid (below_then HB3.out (below_then hb4 hal));have HT5 := hid ((HT3.out.below hb4).below hal);clear hal hin hv ho hb4 HB3 HT3 HX3 HM3 HFt b0 b1 b2
      go_upto_region 6 with (fail)
      generalize w4.alloc (.cells #[.int .i64 N.pl, .slice A n c, .int .i64 N.src, .int .i64 N.snk] 30) = w5 at *;generalize w4.heap.size = nb at *;obtain ⟨n0, n1, n2, n3⟩ := HN5.out.cells;have HSo := hid (sound_any N A n c 400 w5 HI5.out hn (by omega) HT5.out);go_wp2_with fail;((with_reducible refine (HSo.out).mono ?_); rintro e w6 hsp)
      obtain ⟨hs, hb6⟩ := HTs.out _ _ _ hsp;clear HSo hsp n0 n1 n2 n3;have HB6 := hid (below_then HB5.out hb6);have HN6 := hid (HN5.out.below hb6);have HI6 := hid (HI5.out.below hb6);clear HB5 HN5 HI5 hb6;rcases hs with ⟨v, rfl, hv⟩ | rfl
      · obtain ⟨cn1, Ar1, nr1, cr1, Ap1, np1, cp1, Ak1, nk1, ck1, Av1, nv1, cv1, As1, ns1, cs1, Aw1, nw1, cw1, rfl⟩ := hv;have hal := below_alloc w6 (.cells #[.int .i64 1, .int .i64 cn1, .slice Ar1 nr1 cr1, .slice Ap1 np1 cp1, .slice Ak1 nk1 ck1, .slice Av1 nv1 cv1, .slice As1 ns1 cs1, .slice Aw1 nw1 cw1] 38);have HC7 := hid (show CtB _ w6.heap.size #[.int .i64 1, .int .i64 cn1, .slice Ar1 nr1 cr1, .slice Ap1 np1 cp1, .slice Ak1 nk1 ck1, .slice Av1 nv1 cv1, .slice As1 ns1 cs1, .slice Aw1 nw1 cw1] from heap_alloc_new w6 (.cells #[.int .i64 1, .int .i64 cn1, .slice Ar1 nr1 cr1, .slice Ap1 np1 cp1, .slice Ak1 nk1 ck1, .slice Av1 nv1 cv1, .slice As1 ns1 cs1, .slice Aw1 nw1 cw1] 38));have HB7 := hid (below_then HB6.out hal);have HN7 := hid (HN6.out.below hal);have HI7 := hid (HI6.out.below hal);clear HB6 HN6 HI6 hal
        go_upto_region 7 with (fail)
        generalize w6.alloc (.cells #[.int .i64 1, .int .i64 cn1, .slice Ar1 nr1 cr1, .slice Ap1 np1 cp1, .slice Ak1 nk1 ck1, .slice Av1 nv1 cv1, .slice As1 ns1 cs1, .slice Aw1 nw1 cw1] 38) = w7 at *;generalize w6.heap.size = cb at *;obtain ⟨n0, n1, n2, n3⟩ := HN7.out.cells;have HRe := hid (srelaxed_any N A n c 400 w7 HI7.out hn (by omega));go_wp2_with fail;((with_reducible refine (HRe.out).mono ?_); rintro e w8 hrp)
        obtain ⟨hr, hb8⟩ := HTr.out _ _ _ hrp;have HC8 := hid (HC7.out.below hb8);have HB8 := hid (below_then HB7.out hb8);clear HRe hrp hb8 n0 n1 n2 n3 HC7 HB7 HI7 HN7;obtain ⟨z0, z1, z2, z3, z4, z5, z6, z7⟩ := HC8.out.cells;rcases hr with ⟨v, rfl, hv⟩ | rfl
        · obtain ⟨cn2, Ar2, nr2, cr2, Ap2, np2, cp2, Ak2, nk2, ck2, Av2, nv2, cv2, As2, ns2, cs2, Aw2, nw2, cw2, rfl⟩ := hv;have hal := below_alloc w8 (.cells #[.int .i64 3, .int .i64 cn2, .slice Ar2 nr2 cr2, .slice Ap2 np2 cp2, .slice Ak2 nk2 ck2, .slice Av2 nv2 cv2, .slice As2 ns2 cs2, .slice Aw2 nw2 cw2] 38);have HF := hid (below_then HB8.out hal);replace z0 := cell_stays hal z0;have HC9 := hid (show CtB _ w8.heap.size #[.int .i64 3, .int .i64 cn2, .slice Ar2 nr2 cr2, .slice Ap2 np2 cp2, .slice Ak2 nk2 ck2, .slice Av2 nv2 cv2, .slice As2 ns2 cs2, .slice Aw2 nw2 cw2] from heap_alloc_new w8 (.cells #[.int .i64 3, .int .i64 cn2, .slice Ar2 nr2 cr2, .slice Ap2 np2 cp2, .slice Ak2 nk2 ck2, .slice Av2 nv2 cv2, .slice As2 ns2 cs2, .slice Aw2 nw2 cw2] 38));obtain ⟨y0, y1, y2, y3, y4, y5, y6, y7⟩ := HC9.out.cells;clear hal z1 z2 z3 z4 z5 z6 z7 y1 y2 y3 y4 y5 y6 y7;go_wp2_with fail;go_ret;exact ⟨rfl, HF.out⟩
        · unfold zCt;have hal := below_alloc w8 (.cells #[.int .i64 0, .int .i64 0, .slice none 0 0, .slice none 0 0, .slice none 0 0, .slice none 0 0, .slice none 0 0, .slice none 0 0] 38);have HF := hid (below_then HB8.out hal);replace z0 := cell_stays hal z0;clear hal z1 z2 z3 z4 z5 z6 z7;go_wp2_with fail;go_ret;exact ⟨rfl, HF.out⟩
      · unfold zCt;have hal := below_alloc w6 (.cells #[.int .i64 0, .int .i64 0, .slice none 0 0, .slice none 0 0, .slice none 0 0, .slice none 0 0, .slice none 0 0, .slice none 0 0] 38);have HC7 := hid (show CtB _ w6.heap.size #[.int .i64 0, .int .i64 0, .slice none 0 0, .slice none 0 0, .slice none 0 0, .slice none 0 0, .slice none 0 0, .slice none 0 0] from heap_alloc_new w6 (.cells #[.int .i64 0, .int .i64 0, .slice none 0 0, .slice none 0 0, .slice none 0 0, .slice none 0 0, .slice none 0 0, .slice none 0 0] 38));have HB7 := hid (below_then HB6.out hal);have HN7 := hid (HN6.out.below hal);have HI7 := hid (HI6.out.below hal);clear HB6 HN6 HI6 hal
        go_upto_region 7 with (fail)
        generalize w6.alloc (.cells #[.int .i64 0, .int .i64 0, .slice none 0 0, .slice none 0 0, .slice none 0 0, .slice none 0 0, .slice none 0 0, .slice none 0 0] 38) = w7 at *;generalize w6.heap.size = cb at *;obtain ⟨n0, n1, n2, n3⟩ := HN7.out.cells;have HRe := hid (srelaxed_any N A n c 400 w7 HI7.out hn (by omega));go_wp2_with fail;((with_reducible refine (HRe.out).mono ?_); rintro e w8 hrp)
        obtain ⟨hr, hb8⟩ := HTr.out _ _ _ hrp;have HC8 := hid (HC7.out.below hb8);have HB8 := hid (below_then HB7.out hb8);clear HRe hrp hb8 n0 n1 n2 n3 HC7 HB7 HI7 HN7;obtain ⟨z0, z1, z2, z3, z4, z5, z6, z7⟩ := HC8.out.cells;rcases hr with ⟨v, rfl, hv⟩ | rfl
        · obtain ⟨cn2, Ar2, nr2, cr2, Ap2, np2, cp2, Ak2, nk2, ck2, Av2, nv2, cv2, As2, ns2, cs2, Aw2, nw2, cw2, rfl⟩ := hv;have hal := below_alloc w8 (.cells #[.int .i64 3, .int .i64 cn2, .slice Ar2 nr2 cr2, .slice Ap2 np2 cp2, .slice Ak2 nk2 ck2, .slice Av2 nv2 cv2, .slice As2 ns2 cs2, .slice Aw2 nw2 cw2] 38);have HF := hid (below_then HB8.out hal);replace z0 := cell_stays hal z0;have HC9 := hid (show CtB _ w8.heap.size #[.int .i64 3, .int .i64 cn2, .slice Ar2 nr2 cr2, .slice Ap2 np2 cp2, .slice Ak2 nk2 ck2, .slice Av2 nv2 cv2, .slice As2 ns2 cs2, .slice Aw2 nw2 cw2] from heap_alloc_new w8 (.cells #[.int .i64 3, .int .i64 cn2, .slice Ar2 nr2 cr2, .slice Ap2 np2 cp2, .slice Ak2 nk2 ck2, .slice Av2 nv2 cv2, .slice As2 ns2 cs2, .slice Aw2 nw2 cw2] 38));obtain ⟨y0, y1, y2, y3, y4, y5, y6, y7⟩ := HC9.out.cells;clear hal z1 z2 z3 z4 z5 z6 z7 y1 y2 y3 y4 y5 y6 y7;go_wp2_with fail;go_ret;exact ⟨rfl, HF.out⟩
        · unfold zCt;have hal := below_alloc w8 (.cells #[.int .i64 0, .int .i64 0, .slice none 0 0, .slice none 0 0, .slice none 0 0, .slice none 0 0, .slice none 0 0, .slice none 0 0] 38);have HF := hid (below_then HB8.out hal);replace z0 := cell_stays hal z0;clear hal z1 z2 z3 z4 z5 z6 z7;go_wp2_with fail;go_ret;exact ⟨rfl, HF.out⟩
    · have q9 : (k != 0) = true := bne_iff_ne.2 hk;have HF := hid (below_then HB3.out (below_then hb4 (below_alloc w4 (.cells #[.int .i64 0, .slice none 0 0, .int .i64 0, .int .i64 0] 30))));unfold zNt;clear hb4 hk;go_wp2_with fail;go_ret;exact ⟨rfl, HF.out⟩
end
section
open Go.ChangeShapes Go.WideShapes Go.ChangeAt Go.WideMaps Go.WideElems Go.RowKit Go.Deep

theorem c_tree : Tryz.prog.cellsOf 24 = 3 := by kernel_rfl
theorem c_trees : Tryz.prog.cellsOf 22 = 1 := by kernel_rfl
instance : Inhabited Tre := ⟨.mk 0 ⟨#[]⟩ []⟩
section
variable {H : Type} {enc : TypeId × Value → H} {W : World}
theorem open_slice_f {P : Program} {base : Nat} {spare : Nat → Bool} {held : Bool} {t e : TypeId} {fuel : Nat} {cs : List Value} {x : DataW H × List MemPlace} (ht : P.underlying t = some (.slice e)) (h : DataW.trod enc P W base spare held fuel t cs = some x) :
 cs = [.slice none 0 0] ∨ ∃ (a : Addr) (len cap n : Nat), cs = [.slice (some a) len cap] ∧ fuel = n + 1 ∧ len ≤ cap ∧ cap ≤ maxLen ∧ ∀ i, i < len → ∃ cs' d', W.cells? base (a.add (i * P.cellsOf e)) (P.cellsOf e) = some cs' ∧ DataW.trod enc P W base spare held n e cs' = some d' := by
 rcases DataW.trod_slice ht h with ⟨h0, _⟩ | ⟨a, len, cap, elems, rest, n, hf, rfl, rfl, hb, hl, hm, hlen, hel, hsp, hns⟩
 · exact .inl h0
 · refine .inr ⟨a, len, cap, n, rfl, hf, hl, hm, fun i hi => ?_⟩;have h1 := hel i hi;rw [List.getElem?_eq_getElem (by omega)] at h1;obtain ⟨cs', h2, h3⟩ := Option.bind_eq_some_iff.1 h1;exact ⟨cs', _, h2, h3⟩
theorem tree_cells : ∀ (fuel : Nat) (c0 c1 c2 : Value) (x : DataW H × List MemPlace), DataW.trod enc Tryz.prog W 0 (fun _ => true) true fuel 24 [c0, c1, c2] = some x → ∃ t, TrM W t c0 c1 c2 := by
 intro fuel
 induction fuel using Nat.strongRecOn with
 | ind fuel ih =>
  intro c0 c1 c2 x h;obtain ⟨xs, n, hf, hx, _, hlen, hg⟩ := DataW.trod_struct Tryz.underlying24 h
  match xs, hlen with
  | [y0, y1, y2], _ =>
   have g0 := hg 0 _ rfl;have g1 := hg 1 _ rfl;have g2 := hg 2 _ rfl;simp [c_int, c_str, c_trees] at g0 g1 g2;obtain ⟨op, e0, _, hop⟩ := DataW.trod_int Tryz.underlying3 g0;obtain ⟨act, e1, _, hac⟩ := DataW.trod_string Tryz.underlying9 g1;simp at e0 e1;subst e0 e1;have hml : maxLen = 9223372036854775807 := rfl;rcases open_slice_f Tryz.underlying22 g2 with e2 | ⟨a, len, cap, m, e2, hfm, hl, hm, hi⟩
   · simp at e2;subst e2;exact ⟨.mk op act [], by rw [TrM]; exact ⟨rfl, rfl, bounds_i64 hop, by omega, none, 0, 0, rfl, rfl, Nat.le_refl _, by omega, by rw [TlM]; trivial⟩⟩
   · simp at e2;subst e2;rw [c_tree] at hi;have key : ∀ i, i < len → ∃ t : Tre, True ∧ (a.add (i * 3)).block < W.heap.size ∧ ∃ c0 c1 c2, W.cell? (a.add (i * 3)) = some c0 ∧ W.cell? ⟨(a.add (i * 3)).block, (a.add (i * 3)).off + 1, none⟩ = some c1 ∧ W.cell? ⟨(a.add (i * 3)).block, (a.add (i * 3)).off + 1 + 1, none⟩ = some c2 ∧ TrM W t c0 c1 c2 := by
      intro i hil;obtain ⟨cs', d', hc, ht⟩ := hi i hil;obtain ⟨_, hcl, hat⟩ := World.cells?_some hc
      match cs', hcl with
      | [k0, k1, k2], _ =>
       obtain ⟨t, htm⟩ := ih m (by omega) k0 k1 k2 d' ht;have a0 := hat 0 (by omega);have a1 := hat 1 (by omega);have a2 := hat 2 (by omega);generalize hq : a.add (i * 3) = q at *;have b0 : W.cell? q = some k0 := by simpa [Addr.add] using a0
       exact ⟨t, trivial, block_lt_of_cell b0, k0, k1, k2, b0, by simpa [Addr.add] using a1, by simpa [Addr.add] using a2, htm⟩
     obtain ⟨f, hf'⟩ := choose_lt key;refine ⟨.mk op act ((List.range len).map f), ?_⟩;rw [TrM];refine ⟨rfl, rfl, bounds_i64 hop, by omega, some a, len, cap, rfl, by simp, hl, by omega, TlM.of _ 0 (fun k hk => ?_)⟩;have hk' : k < len := by simpa using hk
     obtain ⟨_, h2, c0, c1, c2, b0, b1, b2, ht⟩ := hf' k hk';rw [Nat.zero_add];exact ⟨a, c0, c1, c2, rfl, h2, b0, b1, b2, by simpa using ht⟩
end
theorem open_tree {H : Type} {enc : TypeId × Value → H} {W : World} {base : Nat} {v : Value} {d : DataW H} {p : List MemPlace}
 (hv : Value.okWide Tryz.prog W .any base 24 v) (h : DataW.Trod enc Tryz.prog W 0 (fun _ => true) true 24 v d p) :
 ∃ (c0 c1 c2 : Value) (t : Tre), v = .agg #[c0, c1, c2] ∧ TrM W t c0 c1 c2 := by
 obtain ⟨cs, rfl, hsz⟩ := okWide_struct Tryz.underlying24 hv;obtain ⟨q⟩ := cs;obtain ⟨fuel, hf⟩ := h
 match q, hsz.trans c_tree with
 | [c0, c1, c2], _ =>
  obtain ⟨t, ht⟩ := tree_cells fuel c0 c1 c2 _ hf;exact ⟨c0, c1, c2, t, rfl, ht⟩
end
section
open Go.ChangeShapes Go.WideShapes Go.ChangeAt Go.WideMaps Go.WideElems Go.RowKit Go.Joins

def laid_SoundTrees : List (String × DataW Unit) := [("math/bits.deBruijn32tab", Rows.laid_math_bits_deBruijn32tab), ("math/bits.deBruijn64tab", Rows.laid_math_bits_deBruijn64tab), ("internal/strconv.uint64pow10", Rows.laid_internal_strconv_uint64pow10)]
theorem soundTrees_lifted (os : Os) (started : os.Started) (H : Type) (enc : TypeId × Value → H) :
 ReturnsInHanded {} Tryz.checked os 3 .any (fun w args => (Rows.soundTreesSpec.pre enc Tryz.prog Tryz.f3 [] false w args ∧ laidMetH Tryz.prog laid_SoundTrees w) ∧ sizedMet enc Tryz.prog Tryz.f3 (OpenSpec.ofChange Rows.soundTreesSpec) false w args)
  (Rows.soundTreesSpec.post enc Tryz.prog Tryz.f3 false true false false) := by
 refine handed_of_change_both (C := Tryz.checked) (X := (fun w _ => laidMetH Tryz.prog laid_SoundTrees w)) (fun _ _ _ hh h => h.of_heap hh) own_knob started (by kernel_rfl) Tryz.func3
  (ChangeSpec.witness_shaped (enc := enc) (C := Tryz.checked) (os := os) (X := (fun w _ => laidMetH Tryz.prog laid_SoundTrees w)) false (World.laidAll Tryz.prog os laid_SoundTrees) #[.agg #[.int .i64 0, .string ⟨#[]⟩, .slice none 0 0]] 8 (World.laidAll_os _ _ _)
   (World.shaped_of_ZipB (by kernel_rfl) (by kernel_rfl)) (by kernel_rfl) (by kernel_rfl) (by kernel_rfl)
   (by rw [MakeChecks.laidMetH_plain _ _ _ (by kernel_rfl)]; exact laidMet_laidAll _ (by kernel_rfl) (by kernel_rfl))) ?_
 intro W base args ds gs before hval0 hW _ hwt hL hSO _;have hval : ∀ (j : Nat) t v, Tryz.f3.params[j]? = some t → args[j]? = some v → Value.okWide Tryz.prog W .any base t v := hval0;have hW' := hW;obtain ⟨p, q, hA0, hV, rfl, hfz, hnd⟩ := hW;have hA : DataW.TrodAll enc Tryz.prog W 0 (fun _ => true) true Tryz.f3.params.toList args.toList ds p := hA0;rw [Tryz.params3] at hA hval;obtain ⟨v0, d0, rfl, rfl, h0⟩ := trodAll_one hA;obtain ⟨rfl, rfl⟩ := trodVars_none hV;have k0 := h0;have lt0 : ∀ x ∈ p, x.block < W.heap.size := by obtain ⟨m, hm⟩ := k0; exact DataW.trod_lt m _ _ _ hm
 obtain ⟨a0, b0, c0, t0, rfl, m0⟩ := open_tree (hval 0 24 v0 rfl rfl) h0;clear hA0 hval0;refine (soundTrees_walk a0 b0 c0 t0 W (tb_in (reads_in hL (by kernel_rfl) (n := "internal/strconv.uint64pow10") (d := Rows.laid_internal_strconv_uint64pow10) (by unfold laid_SoundTrees; simp only [List.mem_cons, true_or, or_true]))) m0).mono fun e W' ⟨he, bel⟩ => ?_
 subst he;exact ⟨_, rfl, _, _, _, [], _, [], hW', trodAll_mk1 (shut_bool Tryz.underlying4 _), trodAll_mk1 (Below.trod laid_out (by kernel_rfl) (of_decide_eq_true (by kernel_rfl)) k0 bel lt0), rfl, bel.frame _, fun h => by cases h⟩

theorem soundTrees_holds : Rows.SoundTreesSaid :=
 OpenClaim.holds_of_wide 3 Tryz.f3 rfl rfl rfl rfl rfl rfl rfl ⟨rfl, rfl, rfl, rfl, rfl⟩ rfl rfl rfl rfl rfl (by kernel_rfl) Tryz.func3 (by kernel_rfl)
  (of_decide_eq_true (by kernel_rfl)) (by unfold Func.isWrapper; first | (rw [if_pos (by decide +kernel)]; kernel_rfl) | (rw [if_neg (by decide +kernel)]; exact ⟨rfl, rfl⟩))
  (fun os started H enc _ => soundTrees_lifted os started H enc)

theorem soundTrees_card : Rows.SoundTreesCardSaid :=
 Claim7.holds_tied_plain_at .later [] [.data, .data, .data] true Rows.soundTreesCard.stood.harness false
  soundTrees_holds (fun _ h => by cases h) (by kernel_rfl) (fun _ h => by cases h) soundTrees_row_tie rfl ⟨rfl, rfl⟩ (by kernel_rfl) rfl
  (fun f fn hf hfn => by
   obtain rfl : f = 3 := Option.some.inj ((show Tryz.prog.funcNamed "casebook/casebooklaw28.SoundTrees" = some 3 by kernel_rfl).symm.trans hf) |>.symm;obtain rfl : fn = Tryz.f3 := (Option.some.inj (Tryz.func3.symm.trans hfn)).symm;exact ⟨by kernel_rfl, fun j t ht => by
    rw [Tryz.params3] at ht;have hm : t ∈ [24] := by simpa using Array.mem_of_getElem? ht
    have hall : ([24].all fun u => !Tryz.prog.wantsStandIn u) = true := by kernel_rfl
    exact (show Tryz.prog.wantsStandIn t = false by simpa using List.all_eq_true.1 hall t hm)⟩)
  (by kernel_rfl)
#print axioms soundTrees_card
end
end Go.Proofs.YtpiihmbeedlpkaaGreatDoor
