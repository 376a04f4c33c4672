/- Copies of states, ways, what is after a state (sound's all, marks, way, run, after): what a call returns. petri's Initial and Final, gather of sound: what a call returns. Ways (sound's way): what a call returns. -/
import Derived.Test.YtpiihmbeedlpkaaGreatDoorPBm
import Derived.Test.YtpiihmbeedlpkaaGreatDoorPDl
import Derived.Test.YtpiihmbeedlpkaaGreatDoorPBl
import Derived.Test.YtpiihmbeedlpkaaGreatDoorPQj
import Derived.Test.YtpiihmbeedlpkaaGreatDoorPYm
import Derived.Test.YtpiihmbeedlpkaaGreatDoorPHf
namespace Go.Proofs.YtpiihmbeedlpkaaGreatDoor
set_option maxRecDepth 100000
set_option maxHeartbeats 6400000
open Go.Lib (hid)
section
open Go.RowKit

theorem wall_any (w : World) (b : Nat) (N : Nt) (LL : List (List Int)) (MV : List Mv) (fl : Bool) (A : Option Addr) (n c : Nat) (As : Option Addr) (cs : Nat) (Av : Option Addr) (cv : Nat) (Af : Option Addr) (cf : Nat) (Ag : Option Addr) (cg : Nat) (h : WdI w b N LL MV fl A n c As cs Av cv Af cf Ag cg) (hl2 : LL.length ≤ 1000000) (hs : ∀ s ∈ LL, s.length ≤ 1000) :
 Calls Tryz.prog 22 #[.pointer (some ⟨b, 0, none⟩)] w fun e w' => ∃ v, e = .returned v ∧ OLL w w' v LL := by
 have HW := hid h;have HLs := hid hs;obtain ⟨nl, hnl⟩ : ∃ nl, nl = LL.length := ⟨_, rfl⟩;obtain ⟨b0, b1, b2, b3, b4, b5, b6, b7, b8⟩ := HW.out.cells;rw [← hnl] at b4;obtain ⟨j0, hi, hz0, hz1, hz2⟩ := info_parts rowInfo;have HJ := hid (And.intro hi (And.intro hz0 (And.intro hz1 hz2)));clear hi hz0 hz1 hz2;clear h hs;have HO0 := hid (OLL.start (Below.refl w.heap.size w));go_enter Tryz.func22, Tryz.ntmps22;go_wp2_with fail;clear b0 b1 b2 b3 b4 b5 b6 b7 b8;go_loopg [12, 3] (nl) (fun g iv ov wr => ∃ k : Nat, k + g = nl ∧ iv = .int .i64 (k : Int) ∧ OLL w wr ov (LL.take k));case atStart => exact ⟨0, by omega, rfl, HO0.out⟩
 case round =>
  clear HO0;obtain ⟨k, hk, rfl, hO⟩ := hrel;have HK := hid hk;have hle : k ≤ nl := by omega
  have hlk : (LL.take k).length = k := by rw [List.length_take]; omega
  obtain ⟨Ao, co, rfl⟩ := hO.slice;have HO := hid hO;have HSt := hid (HW.out.st.below hO.bel);have HLk := hid hlk;rw [hlk];clear hk hO hlk;by_cases hlt : k < nl
  · have hlt' : k < LL.length := by omega
    obtain ⟨sa, rfl, hsa, u, c0, Au, nu, cu, rfl, hzu, hul, _, _⟩ := HSt.out k hlt';have HTk := hid (List.take_succ_eq_append_getElem hlt');have hsl := HLs.out _ (List.getElem_mem hlt');generalize LL[k] = s at *;subst hul;have HZu := hid hzu;clear hlt' hzu;go_wp2_with fail;((with_reducible refine (clone_any Au s.length cu s wr HZu.out rfl (by omega)).mono ?_); rintro e w3 ⟨v3, rfl, hS3⟩)
    obtain ⟨A3, c3, rfl⟩ := hS3.slice;have HO3 := hid (HO.out.below hS3.2);have HN3 := hid (NS.up HO.out.bel hS3);clear hS3 HO HZu;obtain ⟨SLk, q1, q2, q3, q4⟩ := HO3.out;rw [HLk.out] at q1;go_wp2_with (at_builtin; refine wpList_append_own _ rfl _ _ 35 rfl w.heap.size 34 j0 (.slice none 0 0) 1 24 Tryz.underlying35 HJ.out.1 HJ.out.2.1 HJ.out.2.2.1 HJ.out.2.2.2 rfl (by decide) (.slice Ao k co) _ _ rfl (q1.alloc _) ⟨w3.heap.size, 0, none⟩ 1 1 [.slice A3 s.length c3] rfl rfl ?c1 ?c2 ?c3 ?c4 ?c5 ?_);case c1 => exact news_blk (heap_alloc_new w3 (.cells #[.slice A3 s.length c3] 34))
    case c2 => intro u hu; simp at hu; subst hu; rfl
    case c3 => unfold maxLen; omega
    case c4 => omega
    case c5 => have := q4.size; simp; omega
    intro v5 w5 hown5 hgrow5 _;have HO5 := hid (OLL.push (by rw [HLk.out]; exact q1) q2 q3 q4 HN3.out (by rw [HLk.out]; exact hown5) hgrow5);clear q1 q2 q3 q4 hown5 hgrow5 HO3 HN3;go_wp2_with fail;go_roundg (gk - 1);case measure => have := HK.out; omega
    case rel => exact ⟨k + 1, by have := HK.out; omega, by go_num, by rw [HTk.out]; exact HO5.out⟩
  · have HE := hid (show LL.take k = LL from List.take_of_length_le (by omega));rw [HE.out] at HO;go_wp2_with fail;go_ret;exact ⟨_, rfl, by have := HLk.out; rw [HE.out] at this; rw [← this]; exact HO.out⟩
theorem wmarks_any (w : World) (b : Nat) (N : Nt) (LL : List (List Int)) (MV : List Mv) (fl : Bool) (A : Option Addr) (n c : Nat) (As : Option Addr) (cs : Nat) (Av : Option Addr) (cv : Nat) (Af : Option Addr) (cf : Nat) (Ag : Option Addr) (cg : Nat) (Aq : Option Addr) (nq cq : Nat) (Q : List Int) (h : WdI w b N LL MV fl A n c As cs Av cv Af cf Ag cg) (hs : ∀ s ∈ LL, s.length ≤ 1000) (hQ : ZIn w Aq Q) (hq : Q.length = nq) (hq2 : nq ≤ 1000000) (hr : ∀ q ∈ Q, 0 ≤ q ∧ q < (LL.length : Int)) :
 Calls Tryz.prog 20 #[.pointer (some ⟨b, 0, none⟩), .slice Aq nq cq] w fun e w' => ∃ v, e = .returned v ∧ OLL w w' v (Q.map fun q => LL.getD q.toNat []) := by
 have HW := hid h;have HLs := hid hs;have HQ := hid hQ;have HQl := hid hq;have HRg := hid hr;obtain ⟨nl, hnl⟩ : ∃ nl, nl = LL.length := ⟨_, rfl⟩;obtain ⟨j0, hi, hz0, hz1, hz2⟩ := info_parts rowInfo;have HJ := hid (And.intro hi (And.intro hz0 (And.intro hz1 hz2)));clear hi hz0 hz1 hz2;clear h hs hQ hq hr;have HO0 := hid (OLL.start (Below.refl w.heap.size w));go_enter Tryz.func20, Tryz.ntmps20;go_wp2_with fail;go_loopg [10, 5] (nq) (fun g iv ov wr => ∃ k : Nat, k + g = nq ∧ iv = .int .i64 (k : Int) ∧ OLL w wr ov ((Q.take k).map fun q => LL.getD q.toNat []));case atStart => exact ⟨0, by omega, rfl, HO0.out⟩
 case round =>
  clear HO0;obtain ⟨k, hk, rfl, hO⟩ := hrel;have HK := hid hk;have hle : k ≤ nq := by omega
  have hlk : ((Q.take k).map fun q => LL.getD q.toNat []).length = k := by rw [List.length_map, List.length_take, HQl.out]; omega
  obtain ⟨Ao, co, rfl⟩ := hO.slice;have HO := hid hO;have HWr := hid (HW.out.below hO.bel);have HQr := hid (HQ.out.below hO.bel);have HLk := hid hlk;rw [hlk];clear hk hO hlk;by_cases hlt : k < nq
  · have hlt' : k < Q.length := by rw [HQl.out]; exact hlt
    obtain ⟨aq, rfl, hqa, r0⟩ := HQr.out k hlt';obtain ⟨qn, hqn⟩ := Int.eq_ofNat_of_zero_le (HRg.out _ (List.getElem_mem hlt')).1;have hql : qn < LL.length := by have := (HRg.out _ (List.getElem_mem hlt')).2; omega
    have HTk := hid (show (Q.take (k + 1)).map (fun q => LL.getD q.toNat []) = (Q.take k).map (fun q => LL.getD q.toNat []) ++ [LL[qn]] by
     rw [List.take_succ_eq_append_getElem hlt', List.map_append, hqn]; simp [hql])
    rw [hqn] at r0;obtain ⟨sa, rfl, hsa, u, c0, Au, nu, cu, rfl, hzu, hul, _, _⟩ := HWr.out.st qn hql;have hsl := HLs.out _ (List.getElem_mem hql);obtain ⟨b0, b1, b2, b3, b4, b5, b6, b7, b8⟩ := HWr.out.cells;rw [← hnl] at b4;have hqi : (qn : Int) < (nl : Int) := by omega
    generalize LL[qn] = s at *;subst hul;have HZu := hid hzu;clear hlt' hzu hqn;go_wp2_with fail;clear b0 b1 b2 b3 b4 b5 b6 b7 b8 c0 r0;((with_reducible refine (clone_any Au s.length cu s wr HZu.out rfl (by omega)).mono ?_); rintro e w3 ⟨v3, rfl, hS3⟩)
    obtain ⟨A3, c3, rfl⟩ := hS3.slice;have HO3 := hid (HO.out.below hS3.2);have HN3 := hid (NS.up HO.out.bel hS3);clear hS3 HO HZu;obtain ⟨SLk, q1, q2, q3, q4⟩ := HO3.out;rw [HLk.out] at q1;go_wp2_with (at_builtin; refine wpList_append_own _ rfl _ _ 35 rfl w.heap.size 34 j0 (.slice none 0 0) 1 24 Tryz.underlying35 HJ.out.1 HJ.out.2.1 HJ.out.2.2.1 HJ.out.2.2.2 rfl (by decide) (.slice Ao k co) _ _ rfl (q1.alloc _) ⟨w3.heap.size, 0, none⟩ 1 1 [.slice A3 s.length c3] rfl rfl ?c1 ?c2 ?c3 ?c4 ?c5 ?_);case c1 => exact news_blk (heap_alloc_new w3 (.cells #[.slice A3 s.length c3] 34))
    case c2 => intro u hu; simp at hu; subst hu; rfl
    case c3 => unfold maxLen; omega
    case c4 => omega
    case c5 => have := q4.size; simp; omega
    intro v5 w5 hown5 hgrow5 _;have HO5 := hid (OLL.push (by rw [HLk.out]; exact q1) q2 q3 q4 HN3.out (by rw [HLk.out]; exact hown5) hgrow5);clear q1 q2 q3 q4 hown5 hgrow5 HO3 HN3;go_wp2_with fail;go_roundg (gk - 1);case measure => have := HK.out; omega
    case rel => exact ⟨k + 1, by have := HK.out; omega, by go_num, by rw [HTk.out]; exact HO5.out⟩
  · have HE := hid (show Q.take k = Q from List.take_of_length_le (by rw [HQl.out]; omega));rw [HE.out] at HO HLk;go_wp2_with fail;go_ret;exact ⟨_, rfl, by rw [← HLk.out]; exact HO.out⟩
end
section
open Go.RowKit

theorem pone_any (N : Nt) (A : Option Addr) (n c : Nat) (p : Nat) (w : World) (h : NtIn w A N) (hn : N.tr.length = n) (hn2 : n ≤ 9223372036854775807) (hv : ntB N = true) (hp : (p : Int) < N.pl) :
 Calls Tryz.prog 41 #[.agg #[.int .i64 N.pl, .slice A n c, .int .i64 N.src, .int .i64 N.snk], .int .i64 (p : Int)] w fun e w' => ∃ v, e = .returned (.tuple #[v, .int .i64 0]) ∧ NS w w' v (oneM N.pl.toNat p) := by
 have HB := hid (below_alloc w (.cells #[.int .i64 N.pl, .slice A n c, .int .i64 N.src, .int .i64 N.snk] 30));have HNb := hid (NB.new w N.pl A n c N.src N.snk);have HV := hid (pvalid_any N A n c _ (h.below HB.out) hn hn2);rw [hv] at HV;have hps := nt_small hv;obtain ⟨q, hq⟩ := Int.eq_ofNat_of_zero_le (show 0 ≤ N.pl by omega);have HQ := hid hq;have hq1 : q ≤ 1000 := by omega
 have hpq : p < q := by omega
 have hmk := mk_ints q (by omega);have hp0 : (0 : Int) ≤ (p : Int) := by omega
 have hp1 : (p : Int) < (q : Int) := by omega
 have hpl0 : (0 : Int) ≤ (q : Int) := by omega
 have hc0 : (madeCells #[Value.int .i64 0] q)[p]? = some (.int .i64 0) := by rw [← Array.getElem?_toList, toList_madeCells_one]; simp [hpq]
 have hqn : N.pl.toNat = q := by omega
 rw [hqn];clear h hn hv hps hp hq hqn;go_enter Tryz.func41, Tryz.ntmps41;go_wp2_with fail;generalize w.alloc _ = w0 at *;obtain ⟨b0, b1, b2, b3⟩ := HNb.out.cells;((with_reducible refine HV.out.mono ?_); rintro e w1 ⟨rfl, hb1⟩)
 have HB1 := hid (below_then HB.out hb1);have HN1 := hid (HNb.out.below hb1);clear HV hb1 b0 b1 b2 b3 HNb HB;obtain ⟨b0, b1, b2, b3⟩ := HN1.out.cells;rw [HQ.out] at b0;go_wp2_with fail;have h1 := NS.one1 w1 q p (by omega);go_ret2;exact ⟨_, rfl, NS.up HB1.out h1⟩
theorem pini_any (N : Nt) (A : Option Addr) (n c : Nat) (w : World) (h : NtIn w A N) (hn : N.tr.length = n) (hn2 : n ≤ 9223372036854775807) (hv : ntB N = true) : Calls Tryz.prog 17 #[.agg #[.int .i64 N.pl, .slice A n c, .int .i64 N.src, .int .i64 N.snk]] w fun e w' => ∃ v, e = .returned (.tuple #[v, .int .i64 0]) ∧ NS w w' v (iniM N) := by
 have HB := hid (below_alloc w (.cells #[.int .i64 N.pl, .slice A n c, .int .i64 N.src, .int .i64 N.snk] 30));have HNb := hid (NB.new w N.pl A n c N.src N.snk);have hsr := nt_src hv;have HO := hid (pone_any N A n c N.src.toNat _ (h.below HB.out) hn hn2 hv (by omega));rw [show ((N.src.toNat : Nat) : Int) = N.src by omega] at HO;clear h hn hv hsr;obtain ⟨b0, b1, b2, b3⟩ := HNb.out.cells;go_enter Tryz.func17, Tryz.ntmps17;go_wp2_with fail;((with_reducible refine HO.out.mono ?_); rintro e w1 ⟨v, rfl, hS⟩)
 go_wp2_with fail;go_ret2;exact ⟨_, rfl, NS.up HB.out hS⟩
theorem pfin_any (N : Nt) (A : Option Addr) (n c : Nat) (w : World) (h : NtIn w A N) (hn : N.tr.length = n) (hn2 : n ≤ 9223372036854775807) (hv : ntB N = true) : Calls Tryz.prog 57 #[.agg #[.int .i64 N.pl, .slice A n c, .int .i64 N.src, .int .i64 N.snk]] w fun e w' => ∃ v, e = .returned (.tuple #[v, .int .i64 0]) ∧ NS w w' v (finM N) := by
 have HB := hid (below_alloc w (.cells #[.int .i64 N.pl, .slice A n c, .int .i64 N.src, .int .i64 N.snk] 30));have HNb := hid (NB.new w N.pl A n c N.src N.snk);have hsr := nt_src hv;have HO := hid (pone_any N A n c N.snk.toNat _ (h.below HB.out) hn hn2 hv (by omega));rw [show ((N.snk.toNat : Nat) : Int) = N.snk by omega] at HO;clear h hn hv hsr;obtain ⟨b0, b1, b2, b3⟩ := HNb.out.cells;go_enter Tryz.func57, Tryz.ntmps57;go_wp2_with fail;((with_reducible refine HO.out.mono ?_); rintro e w1 ⟨v, rfl, hS⟩)
 go_wp2_with fail;go_ret2;exact ⟨_, rfl, NS.up HB.out hS⟩
theorem mvb_cells9 {w : World} {b : Nat} {a0 a1 a2 : Value} (h : w.heap[b]? = some (.cells #[a0, a1, a2] 71 (0, 0))) : w.cell? ⟨b, 0, none⟩ = some a0 ∧ w.cell? ⟨b, 1, none⟩ = some a1 ∧ w.cell? ⟨b, 2, none⟩ = some a2 := by simp [World.cell?, h]
theorem WdB.kept {w w' : World} {b : Nat} {pl : Int} {A : Option Addr} {n c : Nat} {src snk : Int} {As : Option Addr} {ns cs : Nat} {Av : Option Addr} {nv cv : Nat} {fl : Bool} {Af : Option Addr} {nf cf : Nat} {vg : Value} (h : WdB w b pl A n c src snk As ns cs Av nv cv fl Af nf cf vg) {row : Option Nat} (hg : w.grownBy w' row) (hne : some b ≠ row) : WdB w' b pl A n c src snk As ns cs Av nv cv fl Af nf cf vg := by
 unfold WdB at h ⊢; rw [hg.block b (Array.getElem?_eq_some_iff.1 h).1 hne]; exact h
theorem WdB.below {w w' : World} {b : Nat} {pl : Int} {A : Option Addr} {n c : Nat} {src snk : Int} {As : Option Addr} {ns cs : Nat} {Av : Option Addr} {nv cv : Nat} {fl : Bool} {Af : Option Addr} {nf cf : Nat} {vg : Value} (h : WdB w b pl A n c src snk As ns cs Av nv cv fl Af nf cf vg) (hb : Below w.heap.size w w') : WdB w' b pl A n c src snk As ns cs Av nv cv fl Af nf cf vg := by
 unfold WdB at h ⊢; rw [hb.block b (Array.getElem?_eq_some_iff.1 h).1]; exact h
theorem WdB.c8 {w : World} {b : Nat} {pl : Int} {A : Option Addr} {n c : Nat} {src snk : Int} {As : Option Addr} {ns cs : Nat} {Av : Option Addr} {nv cv : Nat} {fl : Bool} {Af : Option Addr} {nf cf : Nat} {vg : Value} (h : WdB w b pl A n c src snk As ns cs Av nv cv fl Af nf cf vg) : w.cell? ⟨b, 8, none⟩ = some vg := by
 unfold WdB at h; simp [World.cell?, h]
end
section
open Go.RowKit

theorem wway_any (w : World) (b : Nat) (N : Nt) (LL : List (List Int)) (MV : List Mv) (fl : Bool) (A : Option Addr) (n c : Nat) (As : Option Addr) (cs : Nat) (Av : Option Addr) (cv : Nat) (Af : Option Addr) (cf : Nat) (Ag : Option Addr) (cg : Nat) (s0 goal : Nat) (Aq : Option Addr) (cq : Nat) (F : List Int) (h : WdI w b N LL MV fl A n c As cs Av cv Af cf Ag cg) (hmo : mvOk MV LL.length) (hF : ZIn w Aq F) (hD : IsD MV goal LL.length F) (hs0 : s0 < LL.length) (h0 : 0 ≤ fd F s0) (hl2 : LL.length ≤ 1000000) (hv2 : MV.length ≤ 20000) :
 Calls Tryz.prog 29 #[.pointer (some ⟨b, 0, none⟩), .int .i64 (s0 : Int), .slice Aq LL.length cq] w fun e w' => ∃ v l, e = .returned v ∧ NS w w' v l ∧ WayL MV goal s0 l ∧ l.length = (fd F s0).toNat := by
 have HW := hid h;have HMo := hid hmo;have HFz := hid hF;have HFl := hid hD.len;have HD := hid hD;have htop := hD.top s0 hs0;obtain ⟨i0, hi, hz0, hz1, hz2⟩ := info_parts intInfo;have HI := hid (And.intro hi (And.intro hz0 (And.intro hz1 hz2)));clear hi hz0 hz1 hz2;clear h hmo hF hD;have HS0 := hid (NS.start (Below.refl w.heap.size w));go_enter Tryz.func29, Tryz.ntmps29;go_wp2_with fail;go_loopg [7, 8] ((fd F s0).toNat + 1) (fun g ov sv wr => ∃ (s : Nat) (l : List Int), sv = .int .i64 (s : Int) ∧ (fd F s).toNat + 1 = g ∧ s < LL.length ∧ 0 ≤ fd F s ∧ NS w wr ov l ∧ (∀ r, WayL MV goal s r → WayL MV goal s0 (l ++ r)) ∧ l.length + (fd F s).toNat = (fd F s0).toNat);case atStart => exact ⟨s0, [], rfl, rfl, by omega, h0, HS0.out, fun r hr => hr, by simp⟩
 case round =>
  clear HS0;obtain ⟨s, l, rfl, hsg, hsn, hs1, hS, hway, hll⟩ := hrel;obtain ⟨Ao, co, rfl⟩ := hS.slice;have HS := hid hS;have HWy := hid hway;have HG := hid hsg;have HLl := hid hll;have HWr := hid (HW.out.below hS.2);have HFr := hid (HFz.out.below hS.2);have hsF : s < F.length := by rw [HFl.out]; omega
  obtain ⟨aq, rfl, hqa, q0⟩ := (show ZIn wr Aq F from HFr.out) s hsF;have efs : F[s] = fd F (s : Int) := by unfold fd; simp [hsF]
  rw [efs] at q0;have hsi : (s : Int) < (LL.length : Int) := by omega
  clear hsg hS hway hll efs;by_cases hpos : 0 < fd F (s : Int)
  · have q1 : decide (fd F (s : Int) > 0) = true := by simpa using hpos
    obtain ⟨ag, rfl, hga, Bm, nr, cr, r0, hrd, hrl⟩ := HWr.out.nx s (by rw [outL_len]; omega);have hsO : s < (outL MV LL.length).length := by rw [outL_len]; omega
    have hrow : (outL MV LL.length)[s]? = some (outL MV LL.length)[s] := List.getElem?_eq_getElem hsO;have hshort := outL_short MV LL.length s hrow;have HMem := hid (outL_mem MV LL.length s hrow);generalize (outL MV LL.length)[s]'_ = OL at *;obtain ⟨b0, b1, b2, b3, b4, b5, b6, b7, b8⟩ := HWr.out.cells;have HRd := hid hrd;have HRl := hid hrl;have hnr : nr ≤ 20000 := by omega
    have hsi2 : (s : Int) < (LL.length : Int) := by omega
    clear hrd hrl hrow;go_wp2_with fail;clear b0 b1 b2 b3 b4 b5 b6 b7 b8 r0 q0 q1;obtain ⟨go, rfl⟩ : ∃ go, go = gk := ⟨_, rfl⟩;obtain ⟨wo, rfl⟩ : ∃ wo : World, wo = wr := ⟨_, rfl⟩;go_loopg [25, 7, 8] (nr) (fun g jv ov sv wr => ∃ j : Nat, j + g = nr ∧ jv = .int .i64 (j : Int) ∧ ov = .slice Ao l.length co ∧ sv = .int .i64 (s : Int) ∧ (∀ x ∈ OL.take j, fd F x.t ≠ fd F (s : Int) - 1) ∧ Below wo.heap.size wo wr);case atStart => exact ⟨0, by omega, rfl, rfl, rfl, by simp, Below.refl _ _⟩
    case round =>
     obtain ⟨j, hj, rfl, rfl, rfl, hno, hB⟩ := hrel;have HJ := hid hj;have HNo := hid hno;have HB := hid hB;have hjl : j ≤ nr := by omega
     clear hj hno hB;by_cases hlt : j < nr
     · have hlt' : j < OL.length := by rw [HRl.out]; exact hlt
       obtain ⟨am, rfl, hpa, m0, m1, m2⟩ := mv_cells (HRd.out.below HB.out) hlt';obtain ⟨hxm, hxf⟩ := (HMem.out OL[j]).1 (List.getElem_mem hlt');have HTk := hid (List.take_succ_eq_append_getElem hlt');obtain ⟨r1, r2, r3, r4⟩ := HMo.out _ hxm;obtain ⟨t, ht⟩ := Int.eq_ofNat_of_zero_le r3;have htl : t < LL.length := by omega
       have HXm := hid (show (⟨(s : Int), (t : Int), OL[j].s⟩ : Mv) ∈ MV by rw [← hxf, ← ht]; exact hxm);rw [hxf] at m0;rw [ht] at m1;have HXt := hid ht;generalize OL[j] = x at *;obtain ⟨xf, xt, xs⟩ := x;simp only at m0 m1 m2 HXm HXt;clear hxm hxf r1 r2 r3 r4 ht hlt';go_wp2_with fail;have HX0 := hid (heap_alloc_new wr (.cells #[.int .i64 (s : Int), .int .i64 (t : Int), .int .i64 xs] 71));have HBa := hid (below_then HB.out (below_alloc wr (.cells #[.int .i64 (s : Int), .int .i64 (t : Int), .int .i64 xs] 71)));generalize hxe : wr.heap.size = xb at *;generalize wr.alloc _ = w5 at *;clear m0 m1 m2 HB;have htF : t < F.length := by rw [HFl.out]; omega
       obtain ⟨aq1, e1, _, q2⟩ := (show ZIn w5 (some aq) F from HFr.out.below HBa.out) t htF;cases e1;obtain ⟨aq2, e2, _, q3⟩ := (show ZIn w5 (some aq) F from HFr.out.below HBa.out) s hsF;cases e2;have eft : F[t] = fd F (t : Int) := by unfold fd; simp [htF]
       have efs : F[s] = fd F (s : Int) := by unfold fd; simp [hsF]
       rw [eft] at q2;rw [efs] at q3;obtain ⟨x0, x1, x2⟩ := mvb_cells9 HX0.out;have hti : (t : Int) < (LL.length : Int) := by omega
       have htop2 := HD.out.top s (by omega);by_cases hh : fd F (t : Int) = fd F (s : Int) - 1
       · have q4 : (fd F (t : Int) == fd F (s : Int) - 1) = true := by rw [beq_iff_eq]; exact hh
         go_quiet (fail);have hbq := below_drewN w5 nq;have HX9 := hid (show (w5.drewN nq).heap[xb]? = some (.cells #[.int .i64 (s : Int), .int .i64 (t : Int), .int .i64 xs] 71 (0, 0)) by rw [hbq.block xb (Array.getElem?_eq_some_iff.1 HX0.out).1]; exact HX0.out);have HB9 := hid (below_then HBa.out hbq);have HS9 := hid (HS.out.below HB9.out);clear hbq x0 x1 x2 q2 q3 HX0 HBa;generalize w5.drewN nq = w6 at *;obtain ⟨x0, x1, x2⟩ := mvb_cells9 HX9.out;have hl20 : l.length ≤ 1000000 := by have := HLl.out; omega
         go_wp2_with (at_builtin; refine wpList_append_own _ rfl _ _ 34 rfl w.heap.size 3 i0 (.int .i64 0) 1 8 Tryz.underlying34 HI.out.1 HI.out.2.1 HI.out.2.2.1 HI.out.2.2.2 rfl (by decide) (.slice Ao l.length co) _ _ rfl (HS9.out.1.alloc _) ⟨w6.heap.size, 0, none⟩ 1 1 [.int .i64 xs] rfl rfl ?c1 ?c2 ?c3 ?c4 ?c5 ?_);case c1 => intro j u hj; match j, hj with | 0, hj => simp at hj; subst hj; simp [Addr.add] | j + 1, hj => simp at hj
         case c2 => intro u hu; simp at hu; subst hu; rfl
         case c3 => unfold maxLen; omega
         case c4 => omega
         case c5 => have := HS9.out.size; simp; omega
         intro v7 w7 hown7 hgrow7 _;have HS7 := hid (HS9.out.push hown7 hgrow7);have hxa : (w6.alloc (.cells #[.int .i64 xs] 3)).heap[xb]? = some (.cells #[.int .i64 (s : Int), .int .i64 (t : Int), .int .i64 xs] 71 (0, 0)) := by rw [(below_alloc w6 _).block xb (Array.getElem?_eq_some_iff.1 HX9.out).1]; exact HX9.out
         have hx7 : w7.heap[xb]? = some (.cells #[.int .i64 (s : Int), .int .i64 (t : Int), .int .i64 xs] 71 (0, 0)) := by rw [hgrow7.block xb (Array.getElem?_eq_some_iff.1 hxa).1 (row_block (HS9.out.1.alloc _) hxa (by decide))]; exact hxa
         clear x0 x1 x2 hown7 hgrow7 hxa;obtain ⟨x0, x1, x2⟩ := mvb_cells9 hx7;go_wp2_with fail;go_roundg (go - 1);case measure => have := HG.out; omega
         case rel => exact ⟨t, l ++ [xs], rfl, by have := HG.out; omega, htl, by omega, HS7.out, fun r hr => by have h9 := HWy.out (xs :: r) (.step HXm.out hr); simpa using h9, by rw [List.length_append]; simp; have := HLl.out; omega⟩
       · have q4 : (fd F (t : Int) == fd F (s : Int) - 1) = false := by rw [beq_eq_false_iff_ne]; exact hh
         go_quiet (fail);have hbq := below_drewN w5 nq;have HX9 := hid (show (w5.drewN nq).heap[xb]? = some (.cells #[.int .i64 (s : Int), .int .i64 (t : Int), .int .i64 xs] 71 (0, 0)) by rw [hbq.block xb (Array.getElem?_eq_some_iff.1 HX0.out).1]; exact HX0.out);have HB9 := hid (below_then HBa.out hbq);have HS9 := hid (HS.out.below HB9.out);clear hbq x0 x1 x2 q2 q3 HX0 HBa;generalize w5.drewN nq = w6 at *;go_wp2_with fail;go_roundg (gk - 1);case measure => have := HJ.out; omega
         case rel => exact ⟨j + 1, by have := HJ.out; omega, by go_num, rfl, rfl, by
          rw [HTk.out]; intro y hy;rcases List.mem_append.1 hy with h1 | h1
          · exact HNo.out y h1
          · simp at h1; subst h1; rw [show (⟨xf, xt, xs⟩ : Mv).t = (t : Int) from HXt.out]; exact hh, HB9.out⟩
     · exfalso;obtain ⟨y, hy, hyf, hy0, hy1⟩ := HD.out.step s (by omega) hpos;have hyo := (HMem.out y).2 ⟨hy, hyf⟩;have hno := HNo.out y (by rw [List.take_of_length_le (by rw [HRl.out]; omega)]; exact hyo);omega
  · have q1 : decide (fd F (s : Int) > 0) = false := by simpa using hpos
    have HSg := hid (HD.out.one s (by omega) (by omega : fd F (s : Int) = 0));have HZ := hid (show fd F (s : Int) = 0 by omega);clear hpos;go_wp2_with fail;go_ret;refine ⟨_, l, rfl, HS.out, ?_, by have := HLl.out; have := HZ.out; omega⟩;have := HWy.out [] (by rw [HSg.out]; exact .stop);simpa using this
end
end Go.Proofs.YtpiihmbeedlpkaaGreatDoor
