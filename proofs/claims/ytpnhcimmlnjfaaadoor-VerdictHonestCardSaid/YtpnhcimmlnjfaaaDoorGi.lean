/- VerdictHonest: for every input the law returns true, and each argument reads afterwards as before. Condition: the row's own (the listed variables of the library read as listed, which the card ties to the program's text). -/
import Derived.Test.YtpnhcimmlnjfaaaDoorIa
import Derived.Test.YtpnhcimmlnjfaaaDoorGh
import Derived.Test.YtpnhcimmlnjfaaaDoorGm
namespace Go.Proofs.YtpnhcimmlnjfaaaDoor
open Go.ChangeShapes Go.WideShapes Go.ChangeAt Go.WideMaps Go.WideElems Go.RowKit Go.Joins

/-- the variables that the row lists -/
def laid_VerdictHonest : List (String × DataW Unit) := [("math/bits.deBruijn32tab", Rows.laid_math_bits_deBruijn32tab), ("math/bits.deBruijn64tab", Rows.laid_math_bits_deBruijn64tab), ("internal/strconv.uint64pow10", Rows.laid_internal_strconv_uint64pow10)]
set_option maxRecDepth 100000 in
theorem verdictHonest_lifted (os : Os) (started : os.Started) (H : Type) (enc : TypeId × Value → H) :
 ReturnsInHanded {} Tryd.checked os 4 .any (fun w args => (Rows.verdictHonestSpec.pre enc Tryd.prog Tryd.f4 [] false w args ∧ laidMetH Tryd.prog laid_VerdictHonest w) ∧ sizedMet enc Tryd.prog Tryd.f4 (OpenSpec.ofChange Rows.verdictHonestSpec) false w args)
  (Rows.verdictHonestSpec.post enc Tryd.prog Tryd.f4 false true false false) := by
 refine handed_of_change_both (C := Tryd.checked) (X := (fun w _ => laidMetH Tryd.prog laid_VerdictHonest w)) (fun _ _ _ hh h => h.of_heap hh) own_knob started (by kernel_rfl) Tryd.func4
  (ChangeSpec.witness_shaped (enc := enc) (C := Tryd.checked) (os := os) (X := (fun w _ => laidMetH Tryd.prog laid_VerdictHonest w)) false (World.laidAll Tryd.prog os laid_VerdictHonest) #[.agg #[.int .i64 0, .slice none 0 0, .int .i64 0, .int .i64 0], .agg #[.int .i64 0, .int .i64 0, .slice none 0 0, .slice none 0 0, .slice none 0 0, .slice none 0 0, .slice none 0 0, .slice none 0 0], .agg #[.int .i64 0, .int .i64 0, .slice none 0 0, .slice none 0 0, .slice none 0 0, .slice none 0 0, .slice none 0 0, .slice none 0 0]] 8 (World.laidAll_os _ _ _)
   (World.shaped_of_ZipB (by kernel_rfl) (by kernel_rfl)) (by kernel_rfl) (by kernel_rfl) (by kernel_rfl)
   (by rw [MakeChecks.laidMetH_plain _ _ _ (by kernel_rfl)]; exact laidMet_laidAll _ (by kernel_rfl) (by kernel_rfl))) ?_
 intro W base args ds gs before hval0 hW _ hwt hL hSO _
 have hval : ∀ (j : Nat) t v, Tryd.f4.params[j]? = some t → args[j]? = some v → Value.okWide Tryd.prog W .any base t v := hval0
 have hW' := hW
 obtain ⟨p, q, hA0, hV, rfl, hfz, hnd⟩ := hW
 have hA : DataW.TrodAll enc Tryd.prog W 0 (fun _ => true) true Tryd.f4.params.toList args.toList ds p := hA0
 rw [Tryd.params4] at hA hval
 obtain ⟨v0, v1, v2, d0, d1, d2, p0, p1, p2, rfl, rfl, rfl, h0, h1, h2⟩ := trodAll_three hA
 obtain ⟨rfl, rfl⟩ := trodVars_none hV
 have k0 := h0
 have lt0 : ∀ x ∈ p0, x.block < W.heap.size := by obtain ⟨m, hm⟩ := k0; exact DataW.trod_lt m _ _ _ hm
 have k1 := h1
 have lt1 : ∀ x ∈ p1, x.block < W.heap.size := by obtain ⟨m, hm⟩ := k1; exact DataW.trod_lt m _ _ _ hm
 have k2 := h2
 have lt2 : ∀ x ∈ p2, x.block < W.heap.size := by obtain ⟨m, hm⟩ := k2; exact DataW.trod_lt m _ _ _ hm
 obtain ⟨N0, A0, n0, cap0, rfl, t0, l0, m0⟩ := open_net (hval 0 24 v0 rfl rfl) h0
 obtain ⟨cl1, cn1, Ar1, nr1, cr1, R1, Ap1, np1, cp1, P1, Ak1, nk1, ck1, K1, Av1, nv1, cv1, V1, As1, ns1, cs1, S1, Aw1, nw1, cw1, X1, rfl, t1⟩ := open_certl (hval 1 29 v1 rfl rfl) h1
 obtain ⟨cl2, cn2, Ar2, nr2, cr2, R2, Ap2, np2, cp2, P2, Ak2, nk2, ck2, K2, Av2, nv2, cv2, V2, As2, ns2, cs2, S2, Aw2, nw2, cw2, X2, rfl, t2⟩ := open_certl (hval 2 29 v2 rfl rfl) h2
 clear hA0 hval0
 refine (verdictHonest_walk N0 A0 n0 cap0 cl1 cn1 Ar1 nr1 cr1 R1 Ap1 np1 cp1 P1 Ak1 nk1 ck1 K1 Av1 nv1 cv1 V1 As1 ns1 cs1 S1 Aw1 nw1 cw1 X1 cl2 cn2 Ar2 nr2 cr2 R2 Ap2 np2 cp2 P2 Ak2 nk2 ck2 K2 Av2 nv2 cv2 V2 As2 ns2 cs2 S2 Aw2 nw2 cw2 X2 W (tb_in (reads_in hL (by kernel_rfl) (n := "internal/strconv.uint64pow10") (d := Rows.laid_internal_strconv_uint64pow10) (by unfold laid_VerdictHonest; simp only [List.mem_cons, true_or, or_true]))) t0 l0 m0 t1 t2).mono fun e W' ⟨he, bel⟩ => ?_
 subst he
 exact ⟨_, rfl, _, _, _, [], _, [], hW', trodAll_mk1 (shut_bool Tryd.underlying4 _), trodAll_mk3 (Below.trod laid_out (by kernel_rfl) (of_decide_eq_true (by kernel_rfl)) k0 bel lt0) (Below.trod laid_out (by kernel_rfl) (of_decide_eq_true (by kernel_rfl)) k1 bel lt1) (Below.trod laid_out (by kernel_rfl) (of_decide_eq_true (by kernel_rfl)) k2 bel lt2), rfl, bel.frame _, fun h => by cases h⟩

theorem verdictHonest_holds : Rows.VerdictHonestSaid :=
 OpenClaim.holds_of_wide 4 Tryd.f4 rfl rfl rfl rfl rfl rfl rfl ⟨rfl, rfl, rfl, rfl, rfl⟩ rfl rfl rfl rfl rfl (by kernel_rfl) Tryd.func4 (by kernel_rfl)
  (of_decide_eq_true (by kernel_rfl)) (by unfold Func.isWrapper; first | (rw [if_pos (by decide +kernel)]; kernel_rfl) | (rw [if_neg (by decide +kernel)]; exact ⟨rfl, rfl⟩))
  (fun os started H enc _ => verdictHonest_lifted os started H enc)

theorem verdictHonest_card : Rows.VerdictHonestCardSaid :=
 Claim7.holds_tied_plain_at .later [] [.data, .data, .data] true Rows.verdictHonestCard.stood.harness false
  verdictHonest_holds (fun _ h => by cases h) (by kernel_rfl) (fun _ h => by cases h) verdictHonest_row_tie rfl ⟨rfl, rfl⟩ (by kernel_rfl) rfl
  (fun f fn hf hfn => by
   obtain rfl : f = 4 := Option.some.inj ((show Tryd.prog.funcNamed "casebook/casebooklaw29.VerdictHonest" = some 4 by kernel_rfl).symm.trans hf) |>.symm
   obtain rfl : fn = Tryd.f4 := (Option.some.inj (Tryd.func4.symm.trans hfn)).symm
   exact ⟨by kernel_rfl, fun j t ht => by
    rw [Tryd.params4] at ht
    have hm : t ∈ [24, 29] := by simpa using Array.mem_of_getElem? ht
    have hall : ([24, 29].all fun u => !Tryd.prog.wantsStandIn u) = true := by kernel_rfl
    exact (show Tryd.prog.wantsStandIn t = false by simpa using List.all_eq_true.1 hall t hm)⟩)
  (by kernel_rfl)
#print axioms verdictHonest_card
end Go.Proofs.YtpnhcimmlnjfaaaDoor
