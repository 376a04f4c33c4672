/- verdict: transition, run, pumps, dead: what a call returns. -/
import Derived.Test.YtkhmngljpfibcaaGreatDoorPUu
import Derived.Test.YtkhmngljpfibcaaGreatDoorPQe
import Derived.Test.YtkhmngljpfibcaaGreatDoorPIn
namespace Go.Proofs.YtkhmngljpfibcaaGreatDoor
set_option maxRecDepth 100000
set_option maxHeartbeats 6400000
open Go.Lib (hid)
open Go.RowKit

structure CfM (w : World) (Ar : Option Addr) (nr : Nat) (R : List Int) (Ap : Option Addr) (np : Nat) (P : List Int) (Ak : Option Addr) (nk : Nat) (K : List (List Int)) (Av : Option Addr) (nv : Nat) (V : List Mv) (As : Option Addr) (ns : Nat) (S : List (List Int)) (Aw : Option Addr) (nw : Nat) (X : List (List Int)) : Prop where
 r : ZIn w Ar R
 rl : R.length = nr
 rb : nr ≤ 9223372036854775806
 p : ZIn w Ap P
 pl : P.length = np
 pb : np ≤ 9223372036854775806
 k : LIn w Ak K
 kl : K.length = nk
 kb : nk ≤ 9223372036854775806
 v : Rd mvC 3 w Av V
 vl : V.length = nv
 vb : nv ≤ 9223372036854775806
 s : LIn w As S
 sl : S.length = ns
 sb : ns ≤ 9223372036854775806
 x : LIn w Aw X
 xl : X.length = nw
 xb : nw ≤ 9223372036854775806
theorem CfM.below {w w' : World} {Ar : Option Addr} {nr : Nat} {R : List Int} {Ap : Option Addr} {np : Nat} {P : List Int} {Ak : Option Addr} {nk : Nat} {K : List (List Int)} {Av : Option Addr} {nv : Nat} {V : List Mv} {As : Option Addr} {ns : Nat} {S : List (List Int)} {Aw : Option Addr} {nw : Nat} {X : List (List Int)} (h : CfM w Ar nr R Ap np P Ak nk K Av nv V As ns S Aw nw X) (hb : Below w.heap.size w w') : CfM w' Ar nr R Ap np P Ak nk K Av nv V As ns S Aw nw X :=
 ⟨h.r.below hb, h.rl, h.rb, h.p.below hb, h.pl, h.pb, h.k.below hb, h.kl, h.kb, h.v.below hb, h.vl, h.vb, h.s.below hb, h.sl, h.sb, h.x.below hb, h.xl, h.xb⟩
def trnB (N : Nt) (k : Int) : Bool := decide (0 ≤ k) && decide (k < (N.tr.length : Int))
theorem vtrans_any (N : Nt) (A : Option Addr) (n c : Nat) (k : Int) (w : World) (hn : N.tr.length = n) : Calls Tryz.prog 166 #[.agg #[.int .i64 N.pl, .slice A n c, .int .i64 N.src, .int .i64 N.snk], .int .i64 k] w fun e w' => e = .returned (.bool (trnB N k)) ∧ Below w.heap.size w w' := by
 have HB := hid (below_alloc w (.cells #[.int .i64 N.pl, .slice A n c, .int .i64 N.src, .int .i64 N.snk] 24));by_cases h0 : 0 ≤ k
 · have HV := hid (show trnB N k = decide (k < (n : Int)) by unfold trnB; rw [decide_eq_true h0, hn]; rfl);clear hn;have q0 : decide (0 ≤ k) = true := by simpa using h0
   go_enter Tryz.func166, Tryz.ntmps166
   go_wp2
   go_ret;exact ⟨ret_bool HV.out.symm, HB.out⟩
 · have HV := hid (show trnB N k = false by unfold trnB; rw [decide_eq_false h0]; rfl);clear hn;have q0 : decide (0 ≤ k) = false := by simpa using h0
   clear h0;go_enter Tryz.func166, Tryz.ntmps166
   go_wp2
   go_ret;exact ⟨ret_bool HV.out.symm, HB.out⟩
def iniM (N : Nt) : List Int := oneM N.pl.toNat N.src.toNat
def finM (N : Nt) : List Int := oneM N.pl.toNat N.snk.toNat
theorem vsrc_any (N : Nt) (A : Option Addr) (n c : Nat) (hv : ntB N = true) (w : World) : Calls Tryz.prog 98 #[.agg #[.int .i64 N.pl, .slice A n c, .int .i64 N.src, .int .i64 N.snk], .int .i64 N.src] w fun e w' => ∃ v, e = .returned v ∧ NS w w' v (iniM N) := by
 have h1 := nt_small hv;have h2 := nt_src hv;have h := vone_any N.pl.toNat A n c N.src N.snk N.src.toNat w (by omega) (by omega);rw [show ((N.pl.toNat : Nat) : Int) = N.pl by omega, show ((N.src.toNat : Nat) : Int) = N.src by omega] at h;exact h
theorem vsnk_any (N : Nt) (A : Option Addr) (n c : Nat) (hv : ntB N = true) (w : World) : Calls Tryz.prog 98 #[.agg #[.int .i64 N.pl, .slice A n c, .int .i64 N.src, .int .i64 N.snk], .int .i64 N.snk] w fun e w' => ∃ v, e = .returned v ∧ NS w w' v (finM N) := by
 have h1 := nt_small hv;have h2 := nt_src hv;have h := vone_any N.pl.toNat A n c N.src N.snk N.snk.toNat w (by omega) (by omega);rw [show ((N.pl.toNat : Nat) : Int) = N.pl by omega, show ((N.snk.toNat : Nat) : Int) = N.snk by omega] at h;exact h
theorem ini_len {N : Nt} (hv : ntB N = true) : ((iniM N).length : Int) = N.pl := by unfold iniM; rw [oneM_len]; have := nt_small hv; omega
theorem fin_len {N : Nt} (hv : ntB N = true) : ((finM N).length : Int) = N.pl := by unfold finM; rw [oneM_len]; have := nt_small hv; omega
def runI (N : Nt) (l : List Int) : List Int × Nat × Int := run21 N (iniM N) l
def VrPo (r : List Int × Nat × Int) (w : World) (e : Ending) (w' : World) : Prop := if r.2.2 = 0 then ∃ v, e = .returned (.tuple #[v, .bool true]) ∧ NS w w' v r.1 else e = .returned (.tuple #[.slice none 0 0, .bool false]) ∧ Below w.heap.size w w'
theorem vr_yes {P : Program} {f : FuncId} {args : Array Value} {w : World} {r : List Int × Nat × Int} (h : Calls P f args w (VrPo r w)) (h0 : r.2.2 = 0) : Calls P f args w fun e w' => ∃ v, e = .returned (.tuple #[v, .bool true]) ∧ NS w w' v r.1 :=
 h.mono fun e w' h1 => by unfold VrPo at h1; rw [if_pos h0] at h1; exact h1
theorem vr_no {P : Program} {f : FuncId} {args : Array Value} {w : World} {r : List Int × Nat × Int} (h : Calls P f args w (VrPo r w)) (h0 : r.2.2 ≠ 0) : Calls P f args w fun e w' => e = .returned (.tuple #[.slice none 0 0, .bool false]) ∧ Below w.heap.size w w' :=
 h.mono fun e w' h1 => by unfold VrPo at h1; rw [if_neg h0] at h1; exact h1
theorem VrPo.no {r : List Int × Nat × Int} {w w' : World} {e : Ending} (h : r.2.2 ≠ 0) (he : e = .returned (.tuple #[.slice none 0 0, .bool false])) (hb : Below w.heap.size w w') : VrPo r w e w' := by
 unfold VrPo; rw [if_neg h]; exact ⟨he, hb⟩
theorem VrPo.yes {r : List Int × Nat × Int} {w w' : World} {e : Ending} {v : Value} (h : r.2.2 = 0) (he : e = .returned (.tuple #[v, .bool true])) (hs : NS w w' v r.1) : VrPo r w e w' := by
 unfold VrPo; rw [if_pos h]; exact ⟨v, he, hs⟩
theorem vrun_any (N : Nt) (A : Option Addr) (n c : Nat) (Al : Option Addr) (nl cl : Nat) (l : List Int) (w : World) (h : NtIn w A N) (hn : N.tr.length = n) (hv : ntB N = true) (hL : ZIn w Al l) (hl : l.length = nl) :
 Calls Tryz.prog 100 #[.agg #[.int .i64 N.pl, .slice A n c, .int .i64 N.src, .int .i64 N.snk], .slice Al nl cl] w (VrPo (runI N l) w) := by
 have HB := hid (below_alloc w (.cells #[.int .i64 N.pl, .slice A n c, .int .i64 N.src, .int .i64 N.snk] 24));have HNb := hid (NB.new w N.pl A n c N.src N.snk);have HIn := hid (h.below HB.out);have HL := hid (hL.below HB.out);have HLl := hid hl;have HNl := hid hn;have HV := hid hv;have hps := nt_small hv;have hn60 : n ≤ 60 := by omega
 have HIl := hid (show (iniM N).length = N.pl.toNat from oneM_len _ _);have hpl40 : N.pl.toNat ≤ 40 := by omega
 clear h hn hv hL hl hps;go_enter Tryz.func100, Tryz.ntmps100;go_wp2_with fail;generalize w.alloc _ = w0 at *;have hbd : Below w0.heap.size w0 w0.drew := (Below.refl _ _).drew;have HB2 := hid (below_then HB.out hbd);have HNb2 := hid (HNb.out.below hbd);have HIn2 := hid (HIn.out.below hbd);have HL2 := hid (HL.out.below hbd);obtain ⟨b0, b1, b2, b3⟩ := HNb2.out.cells;have hS0 := And.intro b0 (And.intro b1 (And.intro b2 b3));by_cases h0 : (runI N l).2.2 = 0
 · refine rh4 hS0 (fun hHeld => ?_);clear hS0 hbd b0 b1 b2 b3 HB HNb HIn HL;generalize w0.drew = w2 at *;refine tkH 0 ?_;(try go_simp);refine tkH 1 ?_;(try go_simp);refine tkH 2 ?_;(try go_simp);refine tkH 3 ?_;(try go_simp);refine tkH 5 ?_;(try go_simp);refine tkR 4 (fun K9 hK => ?_);go_simp;((refine (vsrc_any N A n c HV.out w2).mono ?_); rintro e w3 ⟨v3, rfl, hS3⟩)
   obtain ⟨A3, c3, rfl⟩ := hS3.slice;have hb3 := hS3.2;have hS9 := hHeld;refine hK.out _ _ (ks4 hb3 hS9) (fun hHeld => ?_);clear hK K9 hS9;try go_simp
   have HZ3 := hid (show ZIn w3 A3 (iniM N) by obtain ⟨A', c', e, hz, _⟩ := hS3.zin; cases e; exact hz);have HB3 := hid (below_then HB2.out hb3);have HRn := hid (pRun_any N A n c A3 (iniM N).length c3 (iniM N) Al nl cl l w3 (HIn2.out.below hb3) HNl.out (by omega) HZ3.out rfl (by rw [HIl.out]; omega) (HL2.out.below hb3) HLl.out);rw [show run21 N (iniM N) l = runI N l from rfl] at HRn;clear hb3 hS3 HB2 HIn2 HL2;refine tkR 6 (fun K9 hK => ?_);go_simp;((refine (rv_yes HRn.out h0).mono ?_); rintro e w4 ⟨v4, rfl, hS4⟩); have hb4 := hS4.2
   have hS9 := hHeld;refine hK.out _ _ (ks4 hb4 hS9) (fun hHeld => ?_);clear hK K9 hS9;try go_simp
   have HB4 := hid (below_then HB3.out hb4);refine tkH 7 ?_;(try go_simp);refine tkH 8 ?_;(try go_simp);refine tkH 9 ?_;(try go_simp);refine tkH 10 ?_;(try go_simp);refine tkH 11 ?_;(try go_simp);refine tkH 12 ?_;(try go_simp);refine tkH 13 ?_;(try go_simp);refine wpAnyH_done (by kernel_rfl) ?_ _;clear hHeld;obtain ⟨A4, c4, rfl⟩ := hS4.slice;have HS4 := hid (NS.up HB3.out hS4);have HH := hid h0;clear hS4 hb4 h0 HRn;go_wp2_with fail;go_ret2;exact VrPo.yes HH.out rfl HS4.out
 · refine rh4 hS0 (fun hHeld => ?_);clear hS0 hbd b0 b1 b2 b3 HB HNb HIn HL;generalize w0.drew = w2 at *;refine tkH 0 ?_;(try go_simp);refine tkH 1 ?_;(try go_simp);refine tkH 2 ?_;(try go_simp);refine tkH 3 ?_;(try go_simp);refine tkH 5 ?_;(try go_simp);refine tkR 4 (fun K9 hK => ?_);go_simp;((refine (vsrc_any N A n c HV.out w2).mono ?_); rintro e w3 ⟨v3, rfl, hS3⟩)
   obtain ⟨A3, c3, rfl⟩ := hS3.slice;have hb3 := hS3.2;have hS9 := hHeld;refine hK.out _ _ (ks4 hb3 hS9) (fun hHeld => ?_);clear hK K9 hS9;try go_simp
   have HZ3 := hid (show ZIn w3 A3 (iniM N) by obtain ⟨A', c', e, hz, _⟩ := hS3.zin; cases e; exact hz);have HB3 := hid (below_then HB2.out hb3);have HRn := hid (pRun_any N A n c A3 (iniM N).length c3 (iniM N) Al nl cl l w3 (HIn2.out.below hb3) HNl.out (by omega) HZ3.out rfl (by rw [HIl.out]; omega) (HL2.out.below hb3) HLl.out);rw [show run21 N (iniM N) l = runI N l from rfl] at HRn;clear hb3 hS3 HB2 HIn2 HL2;refine tkR 6 (fun K9 hK => ?_);go_simp;((refine (rv_no HRn.out h0).mono ?_); rintro e w4 ⟨rfl, hb4⟩)
   have hS9 := hHeld;refine hK.out _ _ (ks4 hb4 hS9) (fun hHeld => ?_);clear hK K9 hS9;try go_simp
   have HB4 := hid (below_then HB3.out hb4);refine tkH 7 ?_;(try go_simp);refine tkH 8 ?_;(try go_simp);refine tkH 9 ?_;(try go_simp);refine tkH 10 ?_;(try go_simp);refine tkH 11 ?_;(try go_simp);refine tkH 12 ?_;(try go_simp);refine tkH 13 ?_;(try go_simp);refine wpAnyH_done (by kernel_rfl) ?_ _;clear hHeld;have HH := hid h0;have q9 : ((runI N l).2.2 == 0) = false := by rw [beq_eq_false_iff_ne]; exact h0
   clear hb4 h0 HRn;go_wp2_with fail;go_ret2;exact VrPo.no HH.out rfl HB4.out
end Go.Proofs.YtkhmngljpfibcaaGreatDoor
