/- SameMarking, Find, after of reference 22: what a call returns. -/
import Derived.Test.YtkhmngljpfibcaaGreatDoorPUu
import Derived.Test.YtkhmngljpfibcaaGreatDoorPAk
import Derived.Test.YtkhmngljpfibcaaGreatDoorPHg
import Derived.Test.YtkhmngljpfibcaaGreatDoorPBl
import Derived.Test.YtkhmngljpfibcaaGreatDoorPYm
namespace Go.Proofs.YtkhmngljpfibcaaGreatDoor
set_option maxRecDepth 100000
set_option maxHeartbeats 25600000
open Go.Lib (hid)
open Go.RowKit

theorem isLd (M X : List Int) : isL M X = decide (X = M) := rfl
theorem samey_false {X Y : List Int} {k : Nat} (hx : k < X.length) (hy : k < Y.length) (h : X[k] ≠ Y[k]) : decide (X = Y) = false := by
 rw [decide_eq_false]; intro e; subst e; exact h rfl
theorem samemk_any (Ax : Option Addr) (nx cx : Nat) (X : List Int) (Ay : Option Addr) (ny cy : Nat) (Y : List Int) (w : World) (hX : ZIn w Ax X) (hx : X.length = nx) (hY : ZIn w Ay Y) (hy : Y.length = ny) (hx2 : nx ≤ 9223372036854775807) (hy2 : ny ≤ 9223372036854775807) :
 Calls Tryz.prog 148 #[.slice Ax nx cx, .slice Ay ny cy] w fun e w' => e = .returned (.bool (decide (X = Y))) ∧ Below w.heap.size w w' := by
 have HX := hid hX;have HY := hid hY;have HXl := hid hx;have HYl := hid hy;have HQ := hid (show ∃ q, q = decide (X = Y) from ⟨_, rfl⟩);clear hX hY hx hy HQ;by_cases hne : nx = ny;rotate_left
 · have q1 : ((nx : Int) != (ny : Int)) = true := by rw [bne_iff_ne]; omega
   have HV := hid (show decide (X = Y) = false by rw [decide_eq_false]; intro e; apply hne; rw [← HXl.out, ← HYl.out, e]);clear hne;go_enter Tryz.func148, Tryz.ntmps148;go_wp2_with fail;go_ret;exact ⟨ret_bool HV.out.symm, Below.refl _ _⟩
 subst hne;have HB0 := hid (Below.refl w.heap.size w);go_enter Tryz.func148, Tryz.ntmps148;go_wp2_with fail;go_loopg [5] (nx) (fun g iv wr => ∃ k : Nat, k + g = nx ∧ iv = .int .i64 (k : Int) ∧ X.take k = Y.take k ∧ Below w.heap.size w wr);case atStart => exact ⟨0, by omega, rfl, by simp, HB0.out⟩
 case round =>
  obtain ⟨k, hk, rfl, hp, hB⟩ := hrel;have HK := hid hk;have HP := hid hp;have HB := hid hB;have HXr := hid (HX.out.below hB);have HYr := hid (HY.out.below hB);have hle : k ≤ nx := by omega
  clear hk hp hB;by_cases hlt : k < nx
  · have hxk : k < X.length := by rw [HXl.out]; exact hlt
    have hyk : k < Y.length := by rw [HYl.out]; exact hlt
    obtain ⟨ax, rfl, hpx, q0⟩ := HXr.out k hxk;obtain ⟨ay, rfl, hpy, q1⟩ := HYr.out k hyk;have HNo := hid (samey_false hxk hyk);have HTx := hid (List.take_succ_eq_append_getElem hxk);have HTy := hid (List.take_succ_eq_append_getElem hyk);generalize X[k] = x at *;generalize Y[k] = y at *;clear hxk hyk;by_cases he : x = y
    · subst he;have q2 : (x != x) = false := by simp
      have HV := hid (show X.take (k + 1) = Y.take (k + 1) by rw [HTx.out, HTy.out, HP.out]);go_wp2_with fail;go_quiet (fail);go_wp2_with fail;go_roundg (gk - 1);case measure => have := HK.out; omega
      case rel => exact ⟨k + 1, by have := HK.out; omega, by go_num, HV.out, below_then HB.out (below_drewN _ _)⟩
    · have q2 : (x != y) = true := by rw [bne_iff_ne]; exact he
      have HV := hid (HNo.out he);clear he;go_wp2_with fail;go_quiet (fail);go_wp2_with fail;go_ret;exact ⟨ret_bool HV.out.symm, below_then HB.out (below_drewN _ _)⟩
  · have HV := hid (show decide (X = Y) = true by
     rw [decide_eq_true];have := HP.out;rwa [List.take_of_length_le (by rw [HXl.out]; omega), List.take_of_length_le (by rw [HYl.out]; omega)] at this)
    go_wp2_with fail;go_ret;exact ⟨ret_bool HV.out.symm, HB.out⟩
theorem find22_any (As : Option Addr) (n cs : Nat) (LL : List (List Int)) (vM : Value) (fl : Bool) (Am : Option Addr) (m cm : Nat) (M : List Int) (w : World) (h : LIn w As LL) (hn : LL.length = n) (hn4 : n ≤ 9223372036854775806) (hM : ZIn w Am M) (hm : M.length = m) (hm2 : m ≤ 9223372036854775807) (hv : ∃ Av nv cv, vM = .slice Av nv cv) :
 Calls Tryz.prog 79 #[.agg #[.slice As n cs, vM, .bool fl], .slice Am m cm] w fun e w' => e = .returned (.int .i64 (lidx (isL M) LL)) ∧ Below w.heap.size w w' := by
 obtain ⟨Av, nv, cv, rfl⟩ := hv;have HB0 := hid (below_alloc w (.cells #[.slice As n cs, .slice Av nv cv, .bool fl] 41));have hsb := heap_alloc_new w (.cells #[.slice As n cs, .slice Av nv cv, .bool fl] 41);have HSb := hid (show SpB _ w.heap.size (.slice As n cs) (.slice Av nv cv) fl from hsb);have H0 := hid (h.below HB0.out);have HM0 := hid (hM.below HB0.out);have HN := hid hn;have HMl := hid hm;clear h hM hn hm hsb;go_enter Tryz.func79, Tryz.ntmps79;go_wp2_with fail;generalize w.alloc _ = wa at *;go_loopg [5] (n) (fun g i wr => ∃ k : Nat, k + g = n ∧ i = .int .i64 (k : Int) ∧ (∀ s ∈ LL.take k, (isL M) s = false) ∧ Below wa.heap.size wa wr);case atStart => exact ⟨0, by omega, rfl, by simp, Below.refl _ _⟩
 case round =>
  obtain ⟨k, hk, rfl, hno, hB⟩ := hrel;have HK := hid hk;have HNo := hid hno;have HB := hid hB;have HT := hid (H0.out.below hB);have HMr := hid (HM0.out.below hB);have HSr := hid (HSb.out.below hB);obtain ⟨s0, s1, s2⟩ := HSr.out.cells;have hle : k ≤ n := by omega
  clear hk hno hB;by_cases hlt : k < n
  · have hlt' : k < LL.length := by rw [HN.out]; exact hlt
    obtain ⟨ad, rfl, hp, u, c0, Ax, nx, cx, rfl, zx, hxl, hxc, hxd⟩ := HT.out k hlt';have HTk := hid (List.take_succ_eq_append_getElem hlt');have HAt := hid (lidx_at (p := (isL M)) hlt');generalize LL[k] = X at *;have HX := hid (samemk_any Ax nx cx X Am m cm M wr zx hxl HMr.out HMl.out (by omega) hm2);rw [← isLd] at HX;clear hlt' zx hxl;cases hv : (isL M) X with
    | true =>
     rw [hv] at HX;have HV := hid (HAt.out hv HNo.out); clear hv;go_wp2_with fail;((with_reducible refine HX.out.mono ?_); rintro e w1 ⟨rfl, hb1⟩)
     have HB1 := hid (below_then HB.out hb1);have s0 := cell_stays hb1 s0;go_wp2_with fail;go_ret;exact ⟨ret_int HV.out.symm, HB0.out.trans (HB1.out.mono HB0.out.size)⟩
    | false =>
     rw [hv] at HX;have HV := hid hv; clear hv HAt;go_wp2_with fail;((with_reducible refine HX.out.mono ?_); rintro e w1 ⟨rfl, hb1⟩)
     have HB1 := hid (below_then HB.out hb1);clear hb1;go_wp2_with fail;go_roundg (gk - 1);case measure => have := HK.out; omega
     case rel => exact ⟨k + 1, by have := HK.out; omega, by go_num, by
      rw [HTk.out]; intro s hs;rcases List.mem_append.1 hs with h1 | h1
      · exact HNo.out s h1
      · have : s = X := by simpa using h1
        rw [this]; exact HV.out, HB1.out⟩
  · have HV := hid (show lidx (isL M) LL = -1 from lidx_no (by have := HNo.out; rwa [List.take_of_length_le (by rw [HN.out]; omega)] at this));go_wp2_with fail;go_ret;exact ⟨ret_int HV.out.symm, HB0.out.trans (HB.out.mono HB0.out.size)⟩
def AfPo (R : List Int) (w : World) (e : Ending) (w' : World) : Prop := ∃ v, e = .returned (.tuple #[v, .bool (!bigM R)]) ∧ NS w w' v R
theorem after22_any (N : Nt) (A : Option Addr) (n c : Nat) (Am : Option Addr) (m cm : Nat) (M : List Int) (t : Nat) (ht : t < N.tr.length) (w : World) (h : TIn w A N.tr) (hn : N.tr.length = n) (hM : ZIn w Am M) (hm : M.length = m) (hmk : mkB N M = true) (hcan : canT N.tr[t] M = true) :
 Calls Tryz.prog 78 #[.agg #[.int .i64 N.pl, .slice A n c, .int .i64 N.src, .int .i64 N.snk], .slice Am m cm, .int .i64 t] w (AfPo (fireT N.tr[t] M) w) := by
 have HB := hid (below_alloc w (.cells #[.int .i64 N.pl, .slice A n c, .int .i64 N.src, .int .i64 N.snk] 24));have HNb0 := hid (NB.new w N.pl A n c N.src N.snk);have HM0 := hid (hM.below HB.out);have HM := hid hm;have htn : t < n := by omega
 obtain ⟨hq1, hq2, hq3⟩ := nt_small (mk_nt hmk);have hml : (m : Int) = N.pl := by rw [← hm]; exact mk_len hmk
 have HMl := hid hml;have hm0 : 0 < m := by omega
 have hm40 : m ≤ 40 := by omega
 have hok := (netOk_of (mk_nt hmk) (m := m) hml) t _ (List.getElem?_eq_getElem ht);have HNum := hid (mk_nums hmk);have HNR := hid (show nonneg (fireT N.tr[t] M) from fun p => by
  obtain ⟨e1, e2⟩ := fire_real (t := N.tr[t]) (x := M) (by rw [hm]; exact hok) (fun p => ((mkM hmk) p).1) hcan p;rw [e1]; exact e2)
 have HN1 := hid (decs_nonneg (t := N.tr[t]) (M := M) (by rw [hm]; exact hok.1) (fun p => ((mkM hmk) p).1) hcan);have HNn := hid (show nonneg M from fun p => ((mkM hmk) p).1);obtain ⟨ad, rfl, hpa, hTr⟩ := (h.below HB.out) t ht;have HTr0 := hid hTr;have HPa := hid hpa;have HOk := hid hok;have HR := hid (show fireT N.tr[t] M = incs (decs M N.tr[t].i) N.tr[t].o from rfl);generalize fireT N.tr[t] M = R at HR HNR ⊢;generalize N.tr[t] = T at *;obtain ⟨lb, li, lo⟩ := T;simp only at HR HOk HN1;have HBd := hid (show bnd 1000 M from fun x hx => by have := HNum.out x hx; omega);clear h hn hM hm hok hTr hpa hcan hmk hq1 hq2 hq3 hml;obtain ⟨i0, hi, hz0, hz1, hz2⟩ := info_parts intInfo;have HI := hid (And.intro hi (And.intro hz0 (And.intro hz1 hz2)));clear hi hz0 hz1 hz2;go_enter Tryz.func78, Tryz.ntmps78;have hs0 : (w.alloc (.cells #[.int .i64 N.pl, .slice (some ad) n c, .int .i64 N.src, .int .i64 N.snk] 24)).heap.size = w.heap.size + 1 := by simp
 have hown := own_lit0 (w.alloc (.cells #[.int .i64 N.pl, .slice (some ad) n c, .int .i64 N.src, .int .i64 N.snk] 24));rw [hs0] at hown;have HOwn := hid hown;clear hown;have HAl := hid (below_alloc (w.alloc (.cells #[.int .i64 N.pl, .slice (some ad) n c, .int .i64 N.src, .int .i64 N.snk] 24)) (.cells #[] 3));have HRd0 := hid (rd_of_z (HM0.out.below HAl.out));have HS0 := hid hs0;clear hs0;go_wp2_with (at_builtin; refine wpList_append_rd intC_len intC_one _ rfl _ _ 27 rfl (w.heap.size + 1) 3 i0 (.int .i64 0) 8 Tryz.underlying27 HI.out.1 HI.out.2.1 HI.out.2.2.1 HI.out.2.2.2 rfl (by decide) (.slice (some ⟨w.heap.size + 1, 0, none⟩) 0 0) 0 [] rfl HOwn.out Am m cm M rfl HRd0.out HM.out ?c3 ?c4 ?c5 ?_);case c3 => unfold maxLen; omega
 case c4 => omega
 case c5 => have := HAl.out.size; have := HS0.out; omega
 intro v' w1 hown1 hgrow1;have hS1 := NS.of_app (w := (w.alloc (.cells #[.int .i64 N.pl, .slice (some ad) n c, .int .i64 N.src, .int .i64 N.snk] 24))) (L := []) (n := 0) HAl.out (by rw [HS0.out]; exact HOwn.out) (by rw [HS0.out]; simpa using hown1) hgrow1 rfl HM.out;rw [List.nil_append] at hS1;clear hown1 hgrow1 HRd0 HOwn HAl;have hnb := HNb0.out.lt;generalize w.alloc _ = w0 at *;obtain ⟨gb, cap, rfl, hgb, hgl⟩ := hS1.row (by rw [HM.out]; exact hm0);rw [HM.out] at hS1 ⊢;have HGb := hid hgb;obtain ⟨u0, ⟨_, u1, s1⟩, _, u2, s2⟩ := HTr0.out;obtain ⟨Ai, ni, ci, rfl, zi, hi1, hi2, hi3⟩ := s1;obtain ⟨Ao, no, co, rfl, zo, ho1, ho2, ho3⟩ := s2;simp only at hi1 ho1 zi zo u0 u1 u2;have m0 := cell_stays hS1.2 u0;have m1 := cell_stays hS1.2 u1;have m2 := cell_stays hS1.2 u2;have HZli := hid zi;have HZlo := hid zo;obtain ⟨b0, b1, b2, b3⟩ := (HNb0.out.below hS1.2).cells;have hni : ni ≤ 1000 := by have := pls_len HOk.out.1; simp only at this; rw [← hi1]; omega
 have hno : no ≤ 1000 := by have := pls_len HOk.out.2; simp only at this; rw [← ho1]; omega
 have Hli := hid hi1;have Hlo := hid ho1;have HOkli := hid HOk.out.1;have HOklo := hid HOk.out.2;have HLp := hid HM.out;have ht0 : (0 : Int) ≤ (t : Int) := by omega
 have ht1 : (t : Int) < (n : Int) := by omega
 have HSa := hid (hS1.below (below_alloc w1 (.cells #[.string lb, .slice Ai ni ci, .slice Ao no co] 79)));have HTa := hid (TB.new w1 lb Ai ni ci Ao no co);have HNe := hid (show w1.heap.size ≠ gb by omega);clear hS1 hgb hi1 ho1 zi zo hi2 ho2 HTr0 u0 u1 u2;go_wp2_with fail;have HS1 := hid HSa.out;have HT1 := hid HTa.out;clear HSa HTa m0 m1 m2 b0 b1 b2 b3;generalize hxb : w1.heap.size = xb at *;clear hxb;go_loopg [10] (ni) (fun g iv wr => ∃ k : Nat, k + g = ni ∧ iv = .int .i64 (k : Int) ∧ NS w0 wr (.slice (some ⟨gb, 0, none⟩) m cap) (decs M (li.take k)) ∧ TB wr xb lb Ai ni ci Ao no co);case atStart => exact ⟨0, by omega, rfl, by rw [List.take_zero]; exact HS1.out, HT1.out⟩
 case round =>
  clear HS1 HT1;obtain ⟨k, hk, rfl, hS, hT⟩ := hrel;have HK := hid hk;have HS := hid hS;have HT := hid hT;have hle : k ≤ ni := by omega
  have HZr := hid (HZli.out.below hS.2);obtain ⟨t0, t1, t2⟩ := HT.out;clear hk hS hT;by_cases hlt : k < ni
  · have hlt' : k < li.length := by rw [Hli.out]; exact hlt
    obtain ⟨ap, rfl, hpa, q0⟩ := HZr.out k hlt';obtain ⟨p, hp⟩ := Int.eq_ofNat_of_zero_le (HOkli.out.1 _ (List.getElem_mem hlt')).1;have hpm : p < m := by have := (HOkli.out.1 _ (List.getElem_mem hlt')).2; omega
    obtain ⟨hpl, hrd, hx1, hx2⟩ := decs_round M li k p hlt' hp (by rw [HLp.out]; exact hpm) 1000 (by omega) HBd.out;obtain ⟨_, hat⟩ := decs_at (by rw [HLp.out]; exact HOkli.out) hlt' hp (by rw [HLp.out]; exact hpm);have hxn : 0 ≤ (decs M (li.take k))[p] := by rw [hat]; exact HNn.out p
    have h1e : dec1 (decs M (li.take k))[p] = (decs M (li.take k))[p] - 1 := if_neg (by omega);rw [h1e] at hrd;rw [hp] at q0;have HRd := hid hrd;obtain ⟨r0, r1⟩ := HS.out.cells p hpl;generalize (decs M (li.take k))[p] = x at *;generalize decs M (li.take k) = D at *;clear hrd hp hlt' hpl hat h1e;have hp0 : (0 : Int) ≤ (p : Int) := by omega
    have hp9 : (p : Int) < (m : Int) := by omega
    go_wp2_with fail;go_roundg (gk - 1);case measure => have := HK.out; omega
    case rel => exact ⟨k + 1, by have := HK.out; omega, by go_num, by rw [HRd.out]; exact HS.out.set HGb.out p _, tb_set HT.out HNe.out _⟩
  · have HD := hid (show decs M (li.take k) = decs M li by rw [List.take_of_length_le (by rw [Hli.out]; omega)]);rw [HD.out] at HS;clear HD;have HLp1 := hid (show (decs M li).length = m by rw [decs_len]; exact HLp.out);have HBd1 := hid (show bnd (1000 + (ni : Int)) (decs M li) by have := decs_bnd li 1000 M (by omega) HBd.out; rw [Hli.out] at this; exact this);go_wp2_with fail;clear HLp HBd HK hle HZr HNn t0 t1 t2 hlt;have HLp := hid HLp1.out;have HBd := hid HBd1.out;have HNn := hid HN1.out;clear HLp1 HBd1 HN1;generalize decs M li = M1 at *;have HS1 := hid HS.out;have HT1 := hid HT.out;clear HS HT;obtain ⟨go, rfl⟩ : ∃ go, go = gk := ⟨_, rfl⟩;go_loopg [11] (no) (fun g iv wr => ∃ k : Nat, k + g = no ∧ iv = .int .i64 (k : Int) ∧ NS w0 wr (.slice (some ⟨gb, 0, none⟩) m cap) (incs M1 (lo.take k)) ∧ TB wr xb lb Ai ni ci Ao no co);case atStart => exact ⟨0, by omega, rfl, by rw [List.take_zero]; exact HS1.out, HT1.out⟩
    case round =>
     clear HS1 HT1;obtain ⟨k, hk, rfl, hS, hT⟩ := hrel;have HK := hid hk;have HS := hid hS;have HT := hid hT;have hle : k ≤ no := by omega
     have HZr := hid (HZlo.out.below hS.2);obtain ⟨t0, t1, t2⟩ := HT.out;clear hk hS hT;by_cases hlt : k < no
     · have hlt' : k < lo.length := by rw [Hlo.out]; exact hlt
       obtain ⟨ap, rfl, hpa, q0⟩ := HZr.out k hlt';obtain ⟨p, hp⟩ := Int.eq_ofNat_of_zero_le (HOklo.out.1 _ (List.getElem_mem hlt')).1;have hpm : p < m := by have := (HOklo.out.1 _ (List.getElem_mem hlt')).2; omega
       obtain ⟨hpl, hrd, hx1, hx2⟩ := incs_round M1 lo k p hlt' hp (by rw [HLp.out]; exact hpm) (1000 + ni) (by omega) HBd.out;obtain ⟨_, hat⟩ := incs_at (by rw [HLp.out]; exact HOklo.out) hlt' hp (by rw [HLp.out]; exact hpm);have hxn : 0 ≤ (incs M1 (lo.take k))[p] := by rw [hat]; exact HNn.out p
       have h1e : inc1 (incs M1 (lo.take k))[p] = (incs M1 (lo.take k))[p] + 1 := if_neg (by omega);rw [h1e] at hrd;rw [hp] at q0;have HRd := hid hrd;obtain ⟨r0, r1⟩ := HS.out.cells p hpl;generalize (incs M1 (lo.take k))[p] = x at *;generalize incs M1 (lo.take k) = D at *;clear hrd hp hlt' hpl hat h1e;have hp0 : (0 : Int) ≤ (p : Int) := by omega
       have hp9 : (p : Int) < (m : Int) := by omega
       go_wp2_with fail;go_roundg (gk - 1);case measure => have := HK.out; omega
       case rel => exact ⟨k + 1, by have := HK.out; omega, by go_num, by rw [HRd.out]; exact HS.out.set HGb.out p _, tb_set HT.out HNe.out _⟩
     · have HD := hid (show incs M1 (lo.take k) = R by rw [List.take_of_length_le (by rw [Hlo.out]; omega)]; exact HR.out.symm);rw [HD.out] at HS;clear HD;have HRl := hid (show R.length = m by rw [HR.out, incs_len]; exact HLp.out);obtain ⟨b0, b1, b2, b3⟩ := (HNb0.out.below HS.out.2).cells;have HMr := hid (rmarking_any N.pl (some ad) n c N.src N.snk (some ⟨gb, 0, none⟩) m cap R wr (show ZIn wr (some ⟨gb, 0, none⟩) R by obtain ⟨A', c', e, hz, _⟩ := HS.out.zin; cases e; exact hz) HRl.out (by omega));have HE := hid (show (decide ((m : Int) = N.pl) && !(R.any badK)) = !bigM R by rw [decide_eq_true HMl.out, bad_big HNR.out]; rfl);rw [HE.out] at HMr;go_wp2_with fail;((with_reducible refine HMr.out.mono ?_); rintro e w5 ⟨rfl, hb5⟩)
       have HSf := hid (NS.up HB.out (HS.out.below hb5));go_wp2_with fail;go_ret2;exact ⟨_, rfl, HSf.out⟩
end Go.Proofs.YtkhmngljpfibcaaGreatDoor
