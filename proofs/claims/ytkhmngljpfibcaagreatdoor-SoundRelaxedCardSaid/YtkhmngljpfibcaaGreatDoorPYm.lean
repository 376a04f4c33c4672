/- verdict: sound: what a call returns, plain; the facts that its walk uses. verdict.Check: what a call returns. at, enabled, fire of reference 28; One of reference 21: what a call returns. great, Great, awake of the statements: what a call returns. -/
import Derived.Test.YtkhmngljpfibcaaGreatDoorPUu
import Derived.Test.YtkhmngljpfibcaaGreatDoorPQj
import Derived.Test.YtkhmngljpfibcaaGreatDoorPQp
import Derived.Test.YtkhmngljpfibcaaGreatDoorPDg
import Derived.Lib.UnsafeStr
namespace Go.Proofs.YtkhmngljpfibcaaGreatDoor
set_option maxRecDepth 100000
set_option maxHeartbeats 12800000
open Go.Lib (hid)
section
open Go.RowKit

def mvT (N : Nt) (K : List (List Int)) (i : Nat) (f t s : Int) : Bool := decide (t = (i : Int) + 1) && (decide (0 ≤ f) && (decide (f ≤ (i : Int)) && (decide ((fireV N (K.getD f.toNat []) s).2 = 0) && decide ((fireV N (K.getD f.toNat []) s).1 = K.getD (i + 1) []))))
def mvOkAt (N : Nt) (K : List (List Int)) (V : List Mv) (i : Nat) : Bool := match V[i]? with
 | some x => mvT N K i x.f x.t x.s
 | none => true
theorem mvOk_get {N : Nt} {K : List (List Int)} {V : List Mv} {i : Nat} (h : i < V.length) : mvOkAt N K V i = mvT N K i V[i].f V[i].t V[i].s := by
 unfold mvOkAt; rw [List.getElem?_eq_getElem h]
def CA (w : World) (a : Addr) (v : Value) : Prop := w.cell? a = some v
theorem CA.below {w w' : World} {a : Addr} {v : Value} (h : CA w a v) (hb : Below w.heap.size w w') : CA w' a v := cell_stays hb h
theorem lin_at {w : World} {ak : Addr} {LL : List (List Int)} (h : LIn w (some ak) LL) {i : Nat} (hi : i < LL.length) : ∃ A n c, CA w (ak.add i) (.slice A n c) ∧ ZIn w A LL[i] ∧ LL[i].length = n ∧ n ≤ c ∧ c ≤ 9223372036854775807 := by
 obtain ⟨ad, e, _, u, k0, A, n, c, hu, h1, h2, h3, h4⟩ := h i hi;cases e;subst hu;exact ⟨A, n, c, k0, h1, h2, h3, h4⟩
def rowV (Z : List Int) (i : Nat) : Int := Z.getD i 0
def nearT (K : List (List Int)) (Z : List Int) (i : Nat) (t : Tr) : Bool := canT t (K.getD i []) && decide (rowV Z (lidx (isL (fireT t (K.getD i []))) K).toNat < rowV Z i)
def mrkOk (N : Nt) (K : List (List Int)) (Z : List Int) (i : Nat) : Bool := decide (lidx (isL (K.getD i [])) K = (i : Int)) && ((decide (K.getD i [] = finM N) == decide (rowV Z i = 0)) && (decide (K.getD i [] = finM N) || (N.tr.any (nearT K Z i) && !(decide (0 < (K.getD i []).getD N.snk.toNat 0)))))
def firedB (K : List (List Int)) (t : Tr) : Bool := K.any (canT t)
def sndB (N : Nt) (K : List (List Int)) (V : List Mv) (X : List (List Int)) : Bool :=
 !(K.isEmpty) && (mksX N.pl false K && (decide (K.getD 0 [] = iniM N) && (decide (V.length + 1 = K.length) && (decide (X.length = 1) && (decide ((X.headD []).length = K.length) && ((List.range V.length).all (mvOkAt N K V) && (closX N K && ((List.range K.length).all (mrkOk N K (X.headD [])) && N.tr.all (firedB K)))))))))
theorem any_step {α : Type} (f : α → Bool) {L : List α} {k : Nat} (h : k < L.length) : (L.take (k + 1)).any f = ((L.take k).any f || f L[k]) := by
 rw [List.take_succ_eq_append_getElem h, List.any_append]; simp
theorem tb_set {w : World} {b fb o : Nat} {lb : ByteArray} {Ai : Option Addr} {ni ci : Nat} {Ao : Option Addr} {no co : Nat} (h : TB w b lb Ai ni ci Ao no co) (hne : b ≠ fb) (u : Value) : TB (w.setCell ⟨fb, o, none⟩ u) b lb Ai ni ci Ao no co := by
 have hg : w.grownBy (w.setCell ⟨fb, o, none⟩ u) (some fb) := Lib.grownBy_setB (grown_refl w (some fb)) o u;have hn : some b ≠ some fb := fun e => hne (by cases e; rfl)
 exact ⟨hg.cell h.1 hn, hg.cell h.2.1 hn, hg.cell h.2.2 hn⟩
end
section
open Go.RowKit

def ndB (N : Nt) (cn : Int) (R : List Int) : Bool := decide ((runI N R).2.2 = 0) && (decide (0 < R.length) && decide (R.getD (R.length - 1) 0 = cn))
def ClmP (N : Nt) (cl cn : Int) (R P : List Int) (K : List (List Int)) (V : List Mv) (S X : List (List Int)) : Prop :=
 (1 ≤ cl ∧ cl ≤ 4 → wfP N) ∧ ((cl = 1 ∧ sndB N K V X = true) ∨ (cl = 2 ∧ unsB N cn R P K = true) ∨ (cl = 3 ∧ relB N S = true) ∨ (cl = 4 ∧ nrlB N cn K S = true) ∨ ((cl = 5 ∨ cl = 6) ∧ chkB N (iniM N) ⟨cl, cn, R, P, K⟩ = true) ∨ (cl = 7 ∧ deadB N cn K = true) ∨ (cl = 8 ∧ ndB N cn R = true))
def VcPo (Q : Prop) (w : World) (e : Ending) (w' : World) : Prop := (∃ q : Bool, e = .returned (.bool q) ∧ (q = true ↔ Q)) ∧ Below w.heap.size w w'
theorem VcPo.no {Q : Prop} {w w' : World} (h : ¬ Q) (hb : Below w.heap.size w w') : VcPo Q w (.returned (.bool false)) w' := ⟨⟨false, rfl, by simp [h]⟩, hb⟩
theorem VcPo.is {Q : Prop} {w w' : World} {q : Bool} (h : q = true ↔ Q) (hb : Below w.heap.size w w') : VcPo Q w (.returned (.bool q)) w' := ⟨⟨q, rfl, h⟩, hb⟩
theorem clm_at {N : Nt} {cn : Int} {R P : List Int} {K : List (List Int)} {V : List Mv} {S X : List (List Int)} (hw : wfP N) :
 (ClmP N 1 cn R P K V S X ↔ sndB N K V X = true) ∧ (ClmP N 2 cn R P K V S X ↔ unsB N cn R P K = true) ∧ (ClmP N 3 cn R P K V S X ↔ relB N S = true) ∧ (ClmP N 4 cn R P K V S X ↔ nrlB N cn K S = true) := by
 refine ⟨?_, ?_, ?_, ?_⟩ <;> (unfold ClmP; simp [hw])
theorem clm_no {N : Nt} {cl cn : Int} {R P : List Int} {K : List (List Int)} {V : List Mv} {S X : List (List Int)} (hw : ¬ wfP N) (h1 : 1 ≤ cl) (h4 : cl ≤ 4) : ¬ ClmP N cl cn R P K V S X := fun h => hw (h.1 ⟨h1, h4⟩)
end
section
open Go.RowKit

theorem can28_any (N : Nt) (A : Option Addr) (n c : Nat) (Am : Option Addr) (m cm : Nat) (M : List Int) (t : Nat) (ht : t < N.tr.length) (w : World) (h : TIn w A N.tr) (hn : N.tr.length = n) (hM : ZIn w Am M) (hm : M.length = m) (hin : inM N.tr[t].i m) :
 Calls Tryz.prog 184 #[.agg #[.int .i64 N.pl, .slice A n c, .int .i64 N.src, .int .i64 N.snk], .slice Am m cm, .int .i64 t] w fun e w' => e = .returned (.bool (canT N.tr[t] M)) ∧ Below w.heap.size w w' := by
 have HB := hid (below_alloc w (.cells #[.int .i64 N.pl, .slice A n c, .int .i64 N.src, .int .i64 N.snk] 24));have HN := hid (NB.new w N.pl A n c N.src N.snk);have H0 := hid (h.below HB.out);have HM0 := hid (hM.below HB.out);have HM := hid hm;have htn : t < n := by omega
 clear h hn hM hm;obtain ⟨ad, rfl, hpa, m0, ⟨u1, m1, s1⟩, _⟩ := H0.out t ht;have HR := hid (can_any N.tr[t] M);generalize canT N.tr[t] M = R at HR ⊢;generalize N.tr[t] = T at *;obtain ⟨lb, li, lo⟩ := T;simp only at m0 m1 s1 HR hin;obtain ⟨Ai, ni, ci, rfl, zi, hi1, hi2, hi3⟩ := s1;have HZ := hid zi;have HL := hid hi1;have HIn := hid hin;clear zi hi1 hin;go_enter Tryz.func184, Tryz.ntmps184;go_wp2_with fail;generalize w.alloc _ = w0 at *;obtain ⟨c0, c1, c2, c3⟩ := HN.out.cells;go_loopg [7] (ni) (fun g iv wr => ∃ k : Nat, k + g = ni ∧ iv = .int .i64 k ∧ (li.take k).any (zeroP M) = false ∧ w0 = wr);case atStart => exact ⟨0, by omega, rfl, by simp, rfl⟩
 case round =>
  obtain ⟨k, hk, rfl, hno, rfl⟩ := hrel;have HK := hid hk;have HNo := hid hno;have hle : k ≤ ni := by omega
  clear hk hno;by_cases hlt : k < ni
  · have hlt' : k < li.length := by rw [HL.out]; exact hlt
    obtain ⟨ai, rfl, hpi, q0⟩ := HZ.out k hlt';have HTk := hid (List.take_succ_eq_append_getElem hlt');have HMm := hid (List.getElem_mem hlt');obtain ⟨hp0, hp1⟩ := HIn.out _ (List.getElem_mem hlt');generalize li[k] = p at *;clear hlt';obtain ⟨p', rfl⟩ := Int.eq_ofNat_of_zero_le hp0;have hp2 : p' < m := by omega
    have hp2' : p' < M.length := by rw [HM.out]; exact hp2
    obtain ⟨am, rfl, hpm, q5⟩ := HM0.out p' hp2';have HV := hid (show zeroP M (p' : Int) = decide (M[p'] = 0) by unfold zeroP; simp [hp2']);generalize M[p'] = x at *;clear hp2';by_cases h0 : x = 0
    · have q1 : (x == 0) = true := by rw [h0]; rfl
      have HW := hid (show R = false by rw [HR.out, List.any_eq_true.2 ⟨_, HMm.out, by rw [HV.out]; exact decide_eq_true h0⟩]; rfl);clear h0;go_wp2_with fail;go_ret;exact ⟨ret_bool HW.out.symm, HB.out⟩
    · have q1 : (x == 0) = false := by rw [beq_eq_false_iff_ne]; exact h0
      rw [decide_eq_false h0] at HV;clear h0;go_wp2_with fail;go_roundg (gk - 1);case measure => have := HK.out; omega
      case rel => exact ⟨k + 1, by have := HK.out; omega, by go_num, by rw [HTk.out, List.any_append, HNo.out]; simp [HV.out], rfl⟩
  · have HE := hid (show R = true by
     have h3 := HNo.out;rw [List.take_of_length_le (by rw [HL.out]; omega)] at h3;rw [HR.out, h3]; rfl)
    go_wp2_with fail;go_ret;exact ⟨ret_bool HE.out.symm, HB.out⟩
theorem fire28_any (N : Nt) (A : Option Addr) (n c : Nat) (Am : Option Addr) (m cm : Nat) (M : List Int) (t : Nat) (ht : t < N.tr.length) (w : World) (h : TIn w A N.tr) (hn : N.tr.length = n) (hM : ZIn w Am M) (hm : M.length = m) (hm0 : 0 < m) (hm2 : m ≤ 1000) (hok : trOk N.tr[t] m) (hbd : bnd 1000 M) (hsp : ∀ p : Nat, M.getD p 0 ≤ 100) :
 Calls Tryz.prog 188 #[.agg #[.int .i64 N.pl, .slice A n c, .int .i64 N.src, .int .i64 N.snk], .slice Am m cm, .int .i64 t] w (RFi (fireT N.tr[t] M) w) := by
 have HB := hid (below_alloc w (.cells #[.int .i64 N.pl, .slice A n c, .int .i64 N.src, .int .i64 N.snk] 24));have HNb0 := hid (NB.new w N.pl A n c N.src N.snk);have HM0 := hid (hM.below HB.out);have HM := hid hm;have htn : t < n := by omega
 obtain ⟨ad, rfl, hpa, hTr⟩ := (h.below HB.out) t ht;have HTr0 := hid hTr;have HPa := hid hpa;have HOk := hid hok;have HR := hid (show fireT N.tr[t] M = incs (decs M N.tr[t].i) N.tr[t].o from rfl);generalize fireT N.tr[t] M = R at HR ⊢;generalize N.tr[t] = T at *;obtain ⟨lb, li, lo⟩ := T;simp only at HR HOk;have HBd := hid hbd;have HSp := hid hsp;clear h hn hM hm hok hbd hsp hTr hpa;obtain ⟨i0, hi, hz0, hz1, hz2⟩ := info_parts intInfo;have HI := hid (And.intro hi (And.intro hz0 (And.intro hz1 hz2)));clear hi hz0 hz1 hz2;go_enter Tryz.func188, Tryz.ntmps188;have hs0 : (w.alloc (.cells #[.int .i64 N.pl, .slice (some ad) n c, .int .i64 N.src, .int .i64 N.snk] 24)).heap.size = w.heap.size + 1 := by simp
 have hown := own_lit0 (w.alloc (.cells #[.int .i64 N.pl, .slice (some ad) n c, .int .i64 N.src, .int .i64 N.snk] 24));rw [hs0] at hown;have HOwn := hid hown;clear hown;have HAl := hid (below_alloc (w.alloc (.cells #[.int .i64 N.pl, .slice (some ad) n c, .int .i64 N.src, .int .i64 N.snk] 24)) (.cells #[] 3));have HRd0 := hid (rd_of_z (HM0.out.below HAl.out));have HS0 := hid hs0;clear hs0;go_wp2_with (at_builtin; refine wpList_append_rd intC_len intC_one _ rfl _ _ 27 rfl (w.heap.size + 1) 3 i0 (.int .i64 0) 8 Tryz.underlying27 HI.out.1 HI.out.2.1 HI.out.2.2.1 HI.out.2.2.2 rfl (by decide) (.slice (some ⟨w.heap.size + 1, 0, none⟩) 0 0) 0 [] rfl HOwn.out Am m cm M rfl HRd0.out HM.out ?c3 ?c4 ?c5 ?_);case c3 => unfold maxLen; omega
 case c4 => omega
 case c5 => have := HAl.out.size; have := HS0.out; omega
 intro v' w1 hown1 hgrow1;have hS1 := NS.of_app (w := (w.alloc (.cells #[.int .i64 N.pl, .slice (some ad) n c, .int .i64 N.src, .int .i64 N.snk] 24))) (L := []) (n := 0) HAl.out (by rw [HS0.out]; exact HOwn.out) (by rw [HS0.out]; simpa using hown1) hgrow1 rfl HM.out;rw [List.nil_append] at hS1;clear hown1 hgrow1 HRd0 HOwn HAl;generalize w.alloc _ = w0 at *;obtain ⟨gb, cap, rfl, hgb, hgl⟩ := hS1.row (by rw [HM.out]; exact hm0);rw [HM.out] at hS1 ⊢;have HS1 := hid hS1;have HGb := hid hgb;have HNb := hid HNb0.out;obtain ⟨_, ⟨u1, m1, s1⟩, u2, m2, s2⟩ := HTr0.out;obtain ⟨Ai, ni, ci, rfl, zi, hi1, hi2, hi3⟩ := s1;obtain ⟨Ao, no, co, rfl, zo, ho1, ho2, ho3⟩ := s2;have Q := hid (And.intro m1 m2);have HZi := hid zi;have HZo := hid zo;have Hli := hid hi1;have Hlo := hid ho1;have HOkli := hid HOk.out.1;have HOklo := hid HOk.out.2;have HLp := hid HM.out;have hni : ni ≤ 1000 := by have := pls_len HOk.out.1; rw [← hi1]; omega
 have hno : no ≤ 1000 := by have := pls_len HOk.out.2; rw [← ho1]; omega
 have htn0 : (0 : Int) ≤ (t : Int) := by omega
 have htn1 : (t : Int) < (n : Int) := by omega
 obtain ⟨b0, b1, b2, b3⟩ := (HNb.out.below HS1.out.2).cells;have q1 := cell_stays HS1.out.2 Q.out.1;have q2 := cell_stays HS1.out.2 Q.out.2;clear hS1 hgb hgl zi zo hi1 ho1 m1 m2 hi2 ho2;go_wp2_with fail;clear b0 b1 b2 b3 q1 q2;go_loopg [9] (ni) (fun g iv wr => ∃ k : Nat, k + g = ni ∧ iv = .int .i64 k ∧ NS w0 wr (.slice (some ⟨gb, 0, none⟩) m cap) (decs M (li.take k)));case atStart => exact ⟨0, by omega, rfl, by rw [List.take_zero]; exact HS1.out⟩
 case round =>
  obtain ⟨k, hk, rfl, hS⟩ := hrel;have HK := hid hk;have HS := hid hS;skip;have hle : k ≤ ni := by omega
  have HZr := hid (HZi.out.below hS.2);have q1 := cell_stays hS.2 Q.out.1;have q2 := cell_stays hS.2 Q.out.2;have hgr : gb < wr.heap.size := (hS.1.lt gb rfl).2;obtain ⟨b0, b1, b2, b3⟩ := (HNb.out.below hS.2).cells;clear hk hS;by_cases hlt : k < ni
  · have hlt' : k < li.length := by rw [Hli.out]; exact hlt
    obtain ⟨ap, rfl, hpa, q0⟩ := HZr.out k hlt';obtain ⟨p, hp⟩ := Int.eq_ofNat_of_zero_le (HOkli.out.1 _ (List.getElem_mem hlt')).1;have hpm : p < m := by have := (HOkli.out.1 _ (List.getElem_mem hlt')).2; omega
    obtain ⟨hpl, hrd, hx1, hx2⟩ := decs_round M li k p hlt' hp (by rw [HLp.out]; exact hpm) 1000 (by omega) HBd.out;have HTk := hid (List.take_succ_eq_append_getElem hlt');rw [hp] at q0 HTk;have HRd := hid hrd;have HC := hid (HS.out.cells p hpl);have HLd := hid (show (decs M (li.take k)).length = m by rw [decs_len]; exact HLp.out);generalize (decs M (li.take k))[p] = x at *;generalize decs M (li.take k) = D at *;clear hrd hp hlt' hpl;obtain ⟨r0, r1⟩ := HC.out;have hp0 : (0 : Int) ≤ (p : Int) := by omega
    have hp9 : (p : Int) < (m : Int) := by omega
    by_cases hx : x = -1
    · have q3 : (x != -1) = false := by rw [hx]; rfl
      have HSn := hid (show NS w0 wr (.slice (some ⟨gb, 0, none⟩) m cap) (D.set p (dec1 x)) by
       have e : D.set p (dec1 x) = D := by unfold dec1; rw [if_pos hx]; exact set_same HS.out HC.out.1 hx (by rw [HLd.out]; exact hpm)
       rw [e]; exact HS.out)
      clear hx;go_wp2_with fail;go_roundg (gk - 1);case measure => have := HK.out; omega
      case rel => exact ⟨k + 1, by have := HK.out; omega, by go_num, by rw [HRd.out]; exact HSn.out⟩
    · have q3 : (x != -1) = true := by simpa using hx
      have HD1 := hid (show dec1 x = x - 1 from if_neg hx);rw [HD1.out] at HRd;clear hx;go_wp2_with fail;go_roundg (gk - 1);case measure => have := HK.out; omega
      case rel => exact ⟨k + 1, by have := HK.out; omega, by go_num, by rw [HRd.out]; exact HS.out.set HGb.out p _⟩
  · have HD := hid (show decs M (li.take k) = decs M li by rw [List.take_of_length_le (by rw [Hli.out]; omega)]);rw [HD.out] at HS;clear HD;have HLp1 := hid (show (decs M li).length = m by rw [decs_len]; exact HLp.out);have HBd1 := hid (show bnd (1000 + (ni : Int)) (decs M li) by have := decs_bnd li 1000 M (by omega) HBd.out; rw [Hli.out] at this; exact this);have HSp1 := hid (decs_le li (by rw [HLp.out]; exact HOkli.out) HSp.out);clear HLp HBd HSp HK hle hgr HZr;have HLp := hid HLp1.out;have HBd := hid HBd1.out;have HBig := hid (show bigM R = lo.any (overP (decs M li)) by rw [HR.out]; exact big_over (by rw [HLp1.out]; exact HOklo.out) HSp1.out);clear HLp1 HBd1;generalize decs M li = M1 at *;obtain ⟨go, rfl⟩ : ∃ go, go = gk := ⟨_, rfl⟩;go_wp2_with fail;go_loopg [11] (no) (fun g iv wr => ∃ k : Nat, k + g = no ∧ iv = .int .i64 k ∧ NS w0 wr (.slice (some ⟨gb, 0, none⟩) m cap) (incs M1 (lo.take k)) ∧ (lo.take k).any (overP M1) = false);case atStart => exact ⟨0, by omega, rfl, by rw [List.take_zero]; exact HS.out, by simp⟩
    case round =>
     obtain ⟨k, hk, rfl, hS, hov⟩ := hrel;have HK := hid hk;have HS := hid hS;have HOv := hid hov;have hle : k ≤ no := by omega
     have HZr := hid (HZo.out.below hS.2);have q1 := cell_stays hS.2 Q.out.1;have q2 := cell_stays hS.2 Q.out.2;have hgr : gb < wr.heap.size := (hS.1.lt gb rfl).2;obtain ⟨b0, b1, b2, b3⟩ := (HNb.out.below hS.2).cells;clear hk hS hov;by_cases hlt : k < no
     · have hlt' : k < lo.length := by rw [Hlo.out]; exact hlt
       obtain ⟨ap, rfl, hpa, q0⟩ := HZr.out k hlt';obtain ⟨p, hp⟩ := Int.eq_ofNat_of_zero_le (HOklo.out.1 _ (List.getElem_mem hlt')).1;have hpm : p < m := by have := (HOklo.out.1 _ (List.getElem_mem hlt')).2; omega
       obtain ⟨hpl, hrd, hx1, hx2⟩ := incs_round M1 lo k p hlt' hp (by rw [HLp.out]; exact hpm) (1000 + ni) (by omega) HBd.out;have HTk := hid (List.take_succ_eq_append_getElem hlt');rw [hp] at q0 HTk;obtain ⟨_, hat⟩ := incs_at (by rw [HLp.out]; exact HOklo.out) hlt' hp (by rw [HLp.out]; exact hpm);have HOp := hid (show overP M1 (p : Int) = decide (100 < inc1 (incs M1 (lo.take k))[p]) by unfold overP; rw [hat, Int.toNat_natCast]);have HLi := hid (show (p : Int) ∈ lo by rw [← hp]; exact List.getElem_mem hlt');clear hat;have HRd := hid hrd;have HC := hid (HS.out.cells p hpl);have HLd := hid (show (incs M1 (lo.take k)).length = m by rw [incs_len]; exact HLp.out);generalize (incs M1 (lo.take k))[p] = x at *;generalize incs M1 (lo.take k) = D at *;clear hrd hp hlt' hpl;obtain ⟨r0, r1⟩ := HC.out;have hp0 : (0 : Int) ≤ (p : Int) := by omega
       have hp9 : (p : Int) < (m : Int) := by omega
       by_cases hx : x = -1
       · have q3 : (x != -1) = false := by rw [hx]; rfl
         have HSn := hid (show NS w0 wr (.slice (some ⟨gb, 0, none⟩) m cap) (D.set p (inc1 x)) by
          have e : D.set p (inc1 x) = D := by unfold inc1; rw [if_pos hx]; exact set_same HS.out HC.out.1 hx (by rw [HLd.out]; exact hpm)
          rw [e]; exact HS.out)
         have hv : ¬ 100 < inc1 x := by unfold inc1; rw [if_pos hx]; omega
         have q4 : x ≤ 100 := by omega
         clear hx;go_wp2_with fail;go_roundg (gk - 1);case measure => have := HK.out; omega
         case rel => exact ⟨k + 1, by have := HK.out; omega, by go_num, by rw [HRd.out]; exact HSn.out, by rw [HTk.out, List.any_append, HOv.out]; simp [HOp.out, hv]⟩
       · have q3 : (x != -1) = true := by simpa using hx
         have hi1 : inc1 x = x + 1 := if_neg hx;rw [hi1] at HRd HOp;clear hx hi1;by_cases hv : 100 < x + 1
         · have HSn := hid (HS.out.set HGb.out p (x + 1)).2;have HX := hid (show bigM R = true by rw [HBig.out, List.any_eq_true]; exact ⟨_, HLi.out, by rw [HOp.out]; exact decide_eq_true hv⟩);go_wp2_with fail;go_ret2;exact RFi.no HX.out rfl (below_then HB.out HSn.out)
         · have q4 : x + 1 ≤ 100 := by omega
           go_wp2_with fail;go_roundg (gk - 1);case measure => have := HK.out; omega
           case rel => exact ⟨k + 1, by have := HK.out; omega, by go_num, by rw [HRd.out]; exact HS.out.set HGb.out p _, by rw [HTk.out, List.any_append, HOv.out]; simp [HOp.out, hv]⟩
     · have HD := hid (show incs M1 (lo.take k) = R by rw [List.take_of_length_le (by rw [Hlo.out]; omega)]; exact HR.out.symm);have HX := hid (show bigM R = false by rw [HBig.out]; have := HOv.out; rwa [List.take_of_length_le (by rw [Hlo.out]; omega)] at this);rw [HD.out] at HS;go_wp2_with fail;go_ret2;exact RFi.yes HX.out rfl (NS.up HB.out HS.out)
end
section
open Go.RowKit

structure CfL (w : World) (Ar : Option Addr) (nr : Nat) (R : List Int) (Ap : Option Addr) (np : Nat) (P : List Int) (Ak : Option Addr) (nk : Nat) (K : List (List Int)) (Av : Option Addr) (nv : Nat) (V : List Mv) (As : Option Addr) (ns : Nat) (S : List (List Int)) (Aw : Option Addr) (nw : Nat) (X : List (List Int)) : Prop where
 r : ZIn w Ar R
 rl : R.length = nr
 p : ZIn w Ap P
 pl : P.length = np
 k : LIn w Ak K
 kl : K.length = nk
 v : Rd mvC 3 w Av V
 vl : V.length = nv
 s : LIn w As S
 sl : S.length = ns
 x : LIn w Aw X
 xl : X.length = nw
theorem CfL.below {w w' : World} {Ar : Option Addr} {nr : Nat} {R : List Int} {Ap : Option Addr} {np : Nat} {P : List Int} {Ak : Option Addr} {nk : Nat} {K : List (List Int)} {Av : Option Addr} {nv : Nat} {V : List Mv} {As : Option Addr} {ns : Nat} {S : List (List Int)} {Aw : Option Addr} {nw : Nat} {X : List (List Int)} (h : CfL w Ar nr R Ap np P Ak nk K Av nv V As ns S Aw nw X) (hb : Below w.heap.size w w') : CfL w' Ar nr R Ap np P Ak nk K Av nv V As ns S Aw nw X :=
 ⟨h.r.below hb, h.rl, h.p.below hb, h.pl, h.k.below hb, h.kl, h.v.below hb, h.vl, h.s.below hb, h.sl, h.x.below hb, h.xl⟩
theorem CfL.m {w : World} {Ar : Option Addr} {nr : Nat} {R : List Int} {Ap : Option Addr} {np : Nat} {P : List Int} {Ak : Option Addr} {nk : Nat} {K : List (List Int)} {Av : Option Addr} {nv : Nat} {V : List Mv} {As : Option Addr} {ns : Nat} {S : List (List Int)} {Aw : Option Addr} {nw : Nat} {X : List (List Int)} (h : CfL w Ar nr R Ap np P Ak nk K Av nv V As ns S Aw nw X) (h1 : nr ≤ 1000) (h2 : np ≤ 1000) (h3 : nk ≤ 1000) (h4 : nv ≤ 1000) (h5 : ns ≤ 1000) (h6 : nw ≤ 1000) : CfM w Ar nr R Ap np P Ak nk K Av nv V As ns S Aw nw X :=
 ⟨h.r, h.rl, by omega, h.p, h.pl, by omega, h.k, h.kl, by omega, h.v, h.vl, by omega, h.s, h.sl, by omega, h.x, h.xl, by omega⟩
end
end Go.Proofs.YtkhmngljpfibcaaGreatDoor
