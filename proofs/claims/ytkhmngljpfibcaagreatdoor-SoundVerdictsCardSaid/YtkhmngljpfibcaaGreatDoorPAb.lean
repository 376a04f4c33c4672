/- Dead and Reason of reference 28: what a call returns. -/
import Derived.Test.YtkhmngljpfibcaaGreatDoorPAa
import Derived.Test.YtkhmngljpfibcaaGreatDoorPBw
import Derived.Test.YtkhmngljpfibcaaGreatDoorPAd
import Derived.Test.YtkhmngljpfibcaaGreatDoorPHg
namespace Go.Proofs.YtkhmngljpfibcaaGreatDoor
set_option maxRecDepth 100000
set_option maxHeartbeats 12800000
open Go.Lib (hid)
open Go.RowKit

theorem nev_at {N : Nt} {LL : List (List Int)} {t : Nat} {T : Tr} (ht : N.tr[t]? = some T) : nevB N LL (t : Int) = !(LL.any (canT T)) := by
 have hlt : t < N.tr.length := (List.getElem?_eq_some_iff.1 ht).1;have e1 : trnB N (t : Int) = true := by unfold trnB; simp; omega
 have e2 : enAt N (t : Int) = canT T := by
  funext s
  unfold enAt;rw [Int.toNat_natCast, ht]
 unfold nevB;rw [e1, e2]; simp
theorem comp_leads {N : Nt} {LL : List (List Int)} {MV : List Mv} {goal : Option Nat} (h : GoalOf LL (finM N) goal) (hnod : ∀ (i j : Nat) (s : List Int), LL[i]? = some s → LL[j]? = some s → i = j) (k : Nat) : (∃ g, goal = some g ∧ Lead MV g k) ↔ Leads N LL MV k := by
 constructor
 · rintro ⟨g, rfl, hl⟩;rcases h with ⟨h1, _⟩ | ⟨g', h1, h2⟩
   · cases h1
   · cases h1; exact ⟨g, h2, hl⟩
 · rintro ⟨g, hg, hl⟩;rcases h with ⟨_, h2⟩ | ⟨g', h1, h2⟩
   · exact absurd rfl (h2 _ (List.mem_of_getElem? hg))
   · have := hnod g g' _ hg h2;subst this;exact ⟨g, h1, hl⟩
theorem dead28_any (N : Nt) (A : Option Addr) (n c : Nat) (As : Option Addr) (cs : Nat) (LL : List (List Int)) (Av : Option Addr) (cv : Nat) (MV : List Mv) (fl : Bool) (w : World) (h : NtIn w A N) (hn : N.tr.length = n) (hv : ntB N = true) (hS : LIn w As LL) (hM : Rd mvC 3 w Av MV) (hall : ∀ s ∈ LL, (s.length : Int) = N.pl) (hl2 : LL.length ≤ 1000000) (_hv2 : MV.length ≤ 20000) :
 Calls Tryz.prog 61 #[.agg #[.int .i64 N.pl, .slice A n c, .int .i64 N.src, .int .i64 N.snk], .agg #[.slice As LL.length cs, .slice Av MV.length cv, .bool fl]] w fun e w' => ∃ v L, e = .returned v ∧ NS w w' v L ∧ (L = [] ↔ ¬ RsD N LL) ∧ L.length ≤ 60 := by
 obtain ⟨ns, hnl⟩ : ∃ ns, ns = LL.length := ⟨_, rfl⟩;obtain ⟨nm, hnm⟩ : ∃ nm, nm = MV.length := ⟨_, rfl⟩;have HLl := hid hnl.symm;have HMl := hid hnm.symm;rw [← hnl, ← hnm];rw [← hnl] at hl2;have HV := hid hv;have HAll := hid hall;have HNl := hid hn;have hps := nt_small hv;have hsr := nt_src hv;have hn60 : n ≤ 60 := by rw [← hn]; omega
 have hpl40 : N.pl ≤ 40 := hps.2.1;have hz : w.heap.size + 1 = (w.alloc (.cells #[.int .i64 N.pl, .slice A n c, .int .i64 N.src, .int .i64 N.snk] 24)).heap.size := by simp
 have HB0 := hid (below_then (below_alloc w (.cells #[.int .i64 N.pl, .slice A n c, .int .i64 N.src, .int .i64 N.snk] 24)) (below_alloc _ (.cells #[.slice As ns cs, .slice Av nm cv, .bool fl] 41)));have HNb0 := hid ((NB.new w N.pl A n c N.src N.snk).below (below_alloc _ (.cells #[.slice As ns cs, .slice Av nm cv, .bool fl] 41)));have HSb0 := hid (show SpB ((w.alloc (.cells #[.int .i64 N.pl, .slice A n c, .int .i64 N.src, .int .i64 N.snk] 24)).alloc (.cells #[.slice As ns cs, .slice Av nm cv, .bool fl] 41)) (w.heap.size + 1) (.slice As ns cs) (.slice Av nm cv) fl by rw [hz]; exact heap_alloc_new _ _);have HIn0 := hid (h.below HB0.out);have HSt0 := hid (hS.below HB0.out);have HMv0 := hid (hM.below HB0.out);obtain ⟨i0, hi, hz0, hz1, hz2⟩ := info_parts intInfo;have HI := hid (And.intro hi (And.intro hz0 (And.intro hz1 hz2)));clear hi hz0 hz1 hz2;clear h hn hv hS hM hall hps hsr hnl hnm hz;go_enter Tryz.func61, Tryz.ntmps61;go_wp2_with fail;generalize World.alloc _ _ = w0 at *;have HS0 := hid (NS.start (Below.refl w0.heap.size w0));go_loopg [5, 6] (n) (fun g ov iv wr => ∃ (t : Nat) (L : List Int), t + g = n ∧ iv = .int .i64 (t : Int) ∧ NS w0 wr ov L ∧ (L = [] ↔ ∀ x ∈ N.tr.take t, ∃ s ∈ LL, canT x s = true) ∧ L.length ≤ t);case atStart => exact ⟨0, [], by omega, rfl, HS0.out, by simp, by simp⟩
 case round =>
  clear HS0;obtain ⟨t, L, htg, rfl, hS, hiff, hLl⟩ := hrel;obtain ⟨Ao, co, rfl⟩ := hS.slice;have HK := hid htg;have HS := hid hS;have HBr := hid hS.2;have HY := hid hiff;have HLe := hid hLl;have hle : t ≤ n := by omega
  obtain ⟨b0, b1, b2, b3⟩ := (HNb0.out.below HBr.out).cells;obtain ⟨d0, d1, d2⟩ := (HSb0.out.below HBr.out).cells;clear htg hS hiff hLl;by_cases hlt : t < n
  · have htl : t < N.tr.length := by rw [HNl.out]; exact hlt
    have HNe := hid (never28_any N A n c As ns cs LL (t : Int) wr (HIn0.out.below HBr.out) HNl.out HV.out (HSt0.out.below HBr.out) HLl.out (by omega) HAll.out);have HTk := hid (List.take_succ_eq_append_getElem htl);have HNv := hid (nev_at (LL := LL) (show N.tr[t]? = some N.tr[t] from List.getElem?_eq_getElem htl));generalize N.tr[t] = T at *;cases ha : LL.any (canT T) with
    | true =>
     rw [HNv.out, ha] at HNe;have HEx := hid (List.any_eq_true.1 ha);clear ha htl;go_wp2_with fail;((with_reducible refine HNe.out.mono ?_); rintro e w9 ⟨rfl, hb9⟩)
     have HS9 := hid (HS.out.below hb9);clear hb9 b0 b1 b2 b3 d0 d1 d2 HNe;go_wp2_with fail;go_roundg (gk - 1);case measure => have := HK.out; omega
     case rel => exact ⟨t + 1, L, by have := HK.out; omega, by go_num, HS9.out, HY.out.trans (by
      rw [HTk.out];constructor
      · intro h x hx;rcases List.mem_append.1 hx with h1 | h1
        · exact h x h1
        · simp at h1; subst h1; exact HEx.out
      · exact fun h x hx => h x (List.mem_append_left _ hx)), by have := HLe.out; omega⟩
    | false =>
     rw [HNv.out, ha] at HNe;have HNo := hid (List.any_eq_false.1 ha);clear ha htl;go_wp2_with fail;((with_reducible refine HNe.out.mono ?_); rintro e w9 ⟨rfl, hb9⟩)
     have HS9 := hid (HS.out.below hb9);clear hb9 b0 b1 b2 b3 d0 d1 d2 HNe;have hl60 : L.length ≤ 60 := by have := HLe.out; omega
     go_wp2_with (at_builtin; refine wpList_append_own _ rfl _ _ 27 rfl w0.heap.size 3 i0 (.int .i64 0) 1 8 Tryz.underlying27 HI.out.1 HI.out.2.1 HI.out.2.2.1 HI.out.2.2.2 rfl (by decide) (.slice Ao L.length co) _ _ rfl (HS9.out.1.alloc _) ⟨w9.heap.size, 0, none⟩ 1 1 [.int .i64 (t : Int)] rfl rfl ?c1 ?c2 ?c3 ?c4 ?c5 ?_);case c1 => intro j u hj; match j, hj with | 0, hj => simp at hj; subst hj; simp [Addr.add] | j + 1, hj => simp at hj
     case c2 => intro u hu; simp at hu; subst hu; rfl
     case c3 => unfold maxLen; omega
     case c4 => omega
     case c5 => have := HS9.out.size; simp; omega
     intro v7 w7 hown7 hgrow7 _;have HS7 := hid (HS9.out.push hown7 hgrow7);clear hown7 hgrow7;go_wp2_with fail;go_roundg (gk - 1);case measure => have := HK.out; omega
     case rel => exact ⟨t + 1, L ++ [(t : Int)], by have := HK.out; omega, by go_num, HS7.out, by
      rw [HTk.out];constructor
      · intro h; simp at h
      · intro h;obtain ⟨s, hs, hc⟩ := h T (by simp);exact absurd hc (HNo.out s hs), by rw [List.length_append]; simp; have := HLe.out; omega⟩
  · have hte : N.tr.take t = N.tr := List.take_of_length_le (by rw [HNl.out]; omega);have HD := hid (show L = [] ↔ ¬ RsD N LL from HY.out.trans (by
     rw [hte];unfold RsD;constructor
     · rintro h ⟨x, hx, hd⟩;obtain ⟨s, hs, hc⟩ := h x hx;rw [hd s hs] at hc; cases hc
     · intro h x hx;refine Classical.byContradiction fun hne => h ⟨x, hx, fun s hs => ?_⟩
       cases hc : canT x s with
       | false => rfl
       | true => exact absurd ⟨s, hs, hc⟩ hne))
    have h60 : L.length ≤ 60 := by have := HLe.out; omega
    clear hte;go_wp2_with fail;go_ret;exact ⟨_, L, rfl, HS.out.up HB0.out, HD.out, h60⟩
theorem reason28_any (N : Nt) (A : Option Addr) (n c : Nat) (As : Option Addr) (cs : Nat) (LL : List (List Int)) (Av : Option Addr) (cv : Nat) (MV : List Mv) (fl : Bool) (w : World) (h : NtIn w A N) (hn : N.tr.length = n) (hv : ntB N = true) (hS : LIn w As LL) (hM : Rd mvC 3 w Av MV) (hall : ∀ s ∈ LL, (s.length : Int) = N.pl) (hl2 : LL.length ≤ 1000000) (hv2 : MV.length ≤ 20000) (hnod : ∀ (i j : Nat) (s : List Int), LL[i]? = some s → LL[j]? = some s → i = j) (hmo : mvOk MV LL.length) :
 Calls Tryz.prog 17 #[.agg #[.int .i64 N.pl, .slice A n c, .int .i64 N.src, .int .i64 N.snk], .agg #[.slice As LL.length cs, .slice Av MV.length cv, .bool fl]] w fun e w' => ∃ r : Int, e = .returned (.int .i64 r) ∧ RsN N LL MV r ∧ Below w.heap.size w w' := by
 obtain ⟨ns, hnl⟩ : ∃ ns, ns = LL.length := ⟨_, rfl⟩;obtain ⟨nm, hnm⟩ : ∃ nm, nm = MV.length := ⟨_, rfl⟩;have HLl := hid hnl.symm;have HMl := hid hnm.symm;rw [← hnl, ← hnm];rw [← hnl] at hl2;rw [← hnm] at hv2;have HV := hid hv;have HAll := hid hall;have HNl := hid hn;have hps := nt_small hv;have hsr := nt_src hv;have hn60 : n ≤ 60 := by rw [← hn]; omega
 have hpl40 : N.pl ≤ 40 := hps.2.1;have hz : w.heap.size + 1 = (w.alloc (.cells #[.int .i64 N.pl, .slice A n c, .int .i64 N.src, .int .i64 N.snk] 24)).heap.size := by simp
 have HB0 := hid (below_then (below_alloc w (.cells #[.int .i64 N.pl, .slice A n c, .int .i64 N.src, .int .i64 N.snk] 24)) (below_alloc _ (.cells #[.slice As ns cs, .slice Av nm cv, .bool fl] 41)));have HNb0 := hid ((NB.new w N.pl A n c N.src N.snk).below (below_alloc _ (.cells #[.slice As ns cs, .slice Av nm cv, .bool fl] 41)));have HSb0 := hid (show SpB ((w.alloc (.cells #[.int .i64 N.pl, .slice A n c, .int .i64 N.src, .int .i64 N.snk] 24)).alloc (.cells #[.slice As ns cs, .slice Av nm cv, .bool fl] 41)) (w.heap.size + 1) (.slice As ns cs) (.slice Av nm cv) fl by rw [hz]; exact heap_alloc_new _ _);have HIn0 := hid (h.below HB0.out);have HSt0 := hid (hS.below HB0.out);have HMv0 := hid (hM.below HB0.out);have HNod := hid hnod;have HMo := hid hmo;have hfl : ((finM N).length : Int) = N.pl := mk_len (one_mk hv N.snk.toNat);obtain ⟨sk, hsk⟩ := Int.eq_ofNat_of_zero_le hsr.2.2.1;have HSk := hid hsk;have HFl := hid (show (finM N).length ≤ 1000 by omega);have HSl := hid (show ∀ s ∈ LL, sk < s.length ∧ s.length ≤ 1000 from fun s hs => by have := hall s hs; omega);clear h hn hv hS hM hall hps hsr hnl hnm hz hfl hsk hnod hmo;go_enter Tryz.func17, Tryz.ntmps17;go_wp2_with fail;generalize World.alloc _ _ = w0 at *;have HOm := hid (hasOmega_any (.agg #[.slice As ns cs, .slice Av nm cv, .bool fl]) LL MV fl w0 ⟨As, cs, Av, cv, by rw [HLl.out, HMl.out], HSt0.out, by rw [HLl.out]; omega, HMv0.out, by rw [HMl.out]; omega⟩);obtain ⟨d0, d1, d2⟩ := HSb0.out.cells;go_wp2_with fail;((with_reducible refine HOm.out.mono ?_); rintro e w1 ⟨rfl, hb1⟩)
 have HB1 := hid (HB0.out.trans (hb1.mono HB0.out.size));have HNb1 := hid (HNb0.out.below hb1);have HSb1 := hid (HSb0.out.below hb1);have HIn1 := hid (HIn0.out.below hb1);have HSt1 := hid (HSt0.out.below hb1);have HMv1 := hid (HMv0.out.below hb1);clear hb1 HOm d0 d1 d2 HB0 HNb0 HSb0 HIn0 HSt0 HMv0;cases ho : omB LL with
 | true =>
  have HO := hid (show RsO LL from List.any_eq_true.1 ho);clear ho;go_wp2_with fail;go_ret;exact ⟨1, rfl, .inl ⟨rfl, HO.out⟩, HB1.out⟩
 | false =>
  have HO := hid (show ¬ RsO LL from fun ⟨s, hs, h9⟩ => List.any_eq_false.1 ho s hs h9);clear ho;obtain ⟨b0, b1, b2, b3⟩ := HNb1.out.cells;have HFi := hid (fin28_any N A n c HV.out w1);go_wp2_with fail;((with_reducible refine HFi.out.mono ?_); rintro e w2 ⟨vf, rfl, hnf⟩)
  obtain ⟨Af, cf, rfl, hzf, _, _⟩ := hnf.zin;obtain ⟨nf, hnf9⟩ : ∃ nf, nf = (finM N).length := ⟨_, rfl⟩;have HFn := hid hnf9.symm;rw [← hnf9];have HZf := hid hzf;have HB2 := hid (HB1.out.trans (hnf.2.mono HB1.out.size));have HNb2 := hid (HNb1.out.below hnf.2);have HSb2 := hid (HSb1.out.below hnf.2);have HIn2 := hid (HIn1.out.below hnf.2);have HSt2 := hid (HSt1.out.below hnf.2);have HMv2 := hid (HMv1.out.below hnf.2);clear hnf hzf hnf9 HFi b0 b1 b2 b3 HB1 HNb1 HSb1 HIn1 HSt1 HMv1;go_wp2_with fail;go_loopg [6] (ns) (fun g iv wr => ∃ k : Nat, k + g = ns ∧ iv = .int .i64 (k : Int) ∧ (∀ s ∈ LL.take k, 0 < s.getD N.snk.toNat 0 → s = finM N) ∧ Below w2.heap.size w2 wr);case atStart => exact ⟨0, by omega, rfl, by simp, Below.refl _ _⟩
  case round =>
   obtain ⟨k, hk, rfl, hgd, hB⟩ := hrel;have HK := hid hk;have HGd := hid hgd;have HBr := hid hB;have hle : k ≤ ns := by omega
   obtain ⟨b0, b1, b2, b3⟩ := (HNb2.out.below hB).cells;obtain ⟨d0, d1, d2⟩ := (HSb2.out.below hB).cells;clear hk hgd hB;by_cases hlt : k < ns
   · have hlt' : k < LL.length := by rw [HLl.out]; exact hlt
     obtain ⟨sa, rfl, hsa, u, c0, Au, nu, cu, rfl, hzu, hul, _, _⟩ := (HSt2.out.below HBr.out) k hlt';have HTk := hid (List.take_succ_eq_append_getElem hlt');have HMem := hid (List.getElem_mem hlt');obtain ⟨hskM, hs1000⟩ := HSl.out _ (List.getElem_mem hlt');generalize LL[k] = S at *;subst hul;obtain ⟨am, rfl, hma, y1⟩ := (show ZIn wr Au S from hzu) sk hskM;obtain ⟨ms, hms⟩ : ∃ ms, ms = S[sk] := ⟨_, rfl⟩;have HMs := hid (show S.getD N.snk.toNat 0 = ms by rw [HSk.out, hms]; simp [hskM]);rw [← hms] at y1;rw [HSk.out] at b3;have HEq := hid (fun d os => same_any (some am) S.length cu Af nf cf S (finM N) (Sort.grow (redrawn wr d) os) (ZIn.below hzu (below_regrown wr d os)) rfl ((HZf.out.below HBr.out).below (below_regrown wr d os)) HFn.out (by omega));have hskI : (sk : Int) < (S.length : Int) := by omega
     have hsl9 : S.length ≤ 1000 := hs1000;clear hms hzu hlt';go_wp2_with fail;have a0 := fun d os => cell_regrown b3 d os
     have a1 := fun d os => cell_regrown d0 d os
     have a2 := fun d os => cell_regrown c0 d os
     have a3 := fun d os => cell_regrown y1 d os
     by_cases hpos : 0 < ms
     · have q1 : decide (ms > 0) = true := by simpa using hpos
       have HPos := hid hpos;clear hpos;by_cases he : S = finM N
       · have HE := hid he;rw [decide_eq_true he] at HEq;clear he;refine wp_region_quiet_below (by kernel_rfl) (by kernel_rfl) ?_;repeat (quiet_step (exact Calls.regrown_of (HEq.out _ _)))
         refine wpQuiet_nil ?_;intro _ hw';obtain ⟨⟨dq, osq⟩, hw''⟩ := hw';subst hw'';have HBq := hid (below_then HBr.out (below_regrown wr dq osq));clear a0 a1 a2 a3 HEq b0 b1 b2 b3 d0 d1 d2 c0 y1;go_wp2_with fail;go_roundg (gk - 1);case measure => have := HK.out; omega
         case rel => exact ⟨k + 1, by have := HK.out; omega, by go_num, by
          rw [HTk.out]; intro x hx h0;rcases List.mem_append.1 hx with h1 | h1
          · exact HGd.out x h1 h0
          · simp at h1; subst h1; exact HE.out, HBq.out⟩
       · have HE := hid he;rw [decide_eq_false he] at HEq;clear he;refine wp_region_quiet_below (by kernel_rfl) (by kernel_rfl) ?_;repeat (quiet_step (exact Calls.regrown_of (HEq.out _ _)))
         refine wpQuiet_nil ?_;intro _ hw';obtain ⟨⟨dq, osq⟩, hw''⟩ := hw';subst hw'';have HBq := hid (below_then HB2.out (below_then HBr.out (below_regrown wr dq osq)));clear a0 a1 a2 a3 HEq b0 b1 b2 b3 d0 d1 d2 c0 y1;go_wp2_with fail;go_ret;exact ⟨2, rfl, .inr (.inl ⟨HO.out, rfl, S, HMem.out, by rw [HMs.out]; exact HPos.out, HE.out⟩), HBq.out⟩
     · have q1 : decide (ms > 0) = false := by simpa using hpos
       have HPos := hid hpos;clear hpos HEq;refine wp_region_quiet_below (by kernel_rfl) (by kernel_rfl) ?_;repeat (quiet_step (fail))
       refine wpQuiet_nil ?_;intro _ hw';obtain ⟨⟨dq, osq⟩, hw''⟩ := hw';subst hw'';have HBq := hid (below_then HBr.out (below_regrown wr dq osq));clear a0 a1 a2 a3 b0 b1 b2 b3 d0 d1 d2 c0 y1;go_wp2_with fail;go_roundg (gk - 1);case measure => have := HK.out; omega
       case rel => exact ⟨k + 1, by have := HK.out; omega, by go_num, by
        rw [HTk.out]; intro x hx h0;rcases List.mem_append.1 hx with h1 | h1
        · exact HGd.out x h1 h0
        · simp at h1; subst h1; rw [HMs.out] at h0; exact absurd h0 (by have := HPos.out; omega), HBq.out⟩
   · have HBb := hid (show ¬ RsB N LL from fun ⟨s, hs, h0, hf⟩ => hf (HGd.out s (by rw [List.take_of_length_le (by rw [HLl.out]; omega)]; exact hs) h0));have hnk : ns = k := by omega
     subst hnk;have HCo := hid (comp28_any As cs LL Av cv MV fl Af nf cf (finM N) wr (HSt2.out.below HBr.out) (HMv2.out.below HBr.out) HMo.out (HZf.out.below HBr.out) HFn.out (by rw [HLl.out]; exact hl2) (by rw [HMl.out]; exact hv2));rw [HLl.out, HMl.out] at HCo;clear hlt;go_wp2_with fail;((with_reducible refine HCo.out.mono ?_); rintro e w3 ⟨gb, B, goal, rfl, hbl, hBl, hb3, hgo, hgi⟩)
     have HB3 := hid (below_then HB2.out (below_then HBr.out hb3));have HBL := hid hbl;have HBn := hid hBl;have HLd := hid (show ∀ k, B.getD k false = true ↔ Leads N LL MV k from fun k => (hgi k).trans (comp_leads hgo HNod.out k));have HBt := hid (below_then HBr.out hb3);have HIn3 := hid (HIn2.out.below HBt.out);have HNb3 := hid (HNb2.out.below HBt.out);have HSb3 := hid (HSb2.out.below HBt.out);have HSt3 := hid (HSt2.out.below HBt.out);have HMv3 := hid (HMv2.out.below HBt.out);clear hbl hBl hb3 hgo hgi HCo b0 b1 b2 b3 d0 d1 d2 HBr HBt;go_wp2_with fail;go_loopg [8] (ns) (fun g iv wr => ∃ k : Nat, k + g = ns ∧ iv = .int .i64 (k : Int) ∧ (∀ j, j < k → Leads N LL MV j) ∧ w3 = wr);case atStart => exact ⟨0, by omega, rfl, fun j hj => by omega, rfl⟩
     case round =>
      obtain ⟨k, hk, rfl, hgd2, rfl⟩ := hrel;have HK2 := hid hk;have HGd2 := hid hgd2;have hle2 : k ≤ ns := by omega
      clear hk hgd2;by_cases hlt2 : k < ns
      · have hkB : k < B.length := by rw [HBn.out]; exact hlt2
        obtain ⟨bk, y1, hgt⟩ : ∃ bk : Bool, w3.cell? ⟨gb, k, none⟩ = some (.bool bk) ∧ B.getD k false = bk := ⟨_, HBL.out.cell hkB, by simp [hkB]⟩;have HGt := hid hgt;have hki : (k : Int) < (ns : Int) := by omega
        clear hkB hgt;cases bk with
        | true =>
         have HLk := hid ((HLd.out k).1 HGt.out);go_wp2_with fail;go_roundg (gk - 1);case measure => have := HK2.out; omega
         case rel => exact ⟨k + 1, by have := HK2.out; omega, by go_num, fun j hj => by
          by_cases e : j = k
          · subst e; exact HLk.out
          · exact HGd2.out j (by omega), rfl⟩
        | false =>
         have HLk := hid (show ¬ Leads N LL MV k from fun h => by
          have := (HLd.out k).2 h;rw [HGt.out] at this; cases this)
         go_wp2_with fail;go_ret;exact ⟨3, rfl, .inr (.inr (.inl ⟨HO.out, HBb.out, rfl, k, by rw [HLl.out]; exact hlt2, HLk.out⟩)), HB3.out⟩
      · have HLL := hid (show ¬ RsL N LL MV from fun ⟨j, hj, hn⟩ => hn (HGd2.out j (by rw [HLl.out] at hj; omega)));obtain ⟨b0, b1, b2, b3⟩ := HNb3.out.cells;obtain ⟨d0, d1, d2⟩ := HSb3.out.cells;have HDe := hid (dead28_any N A n c As cs LL Av cv MV fl w3 HIn3.out HNl.out HV.out HSt3.out HMv3.out HAll.out (by rw [HLl.out]; exact hl2) (by rw [HMl.out]; exact hv2));rw [HLl.out, HMl.out] at HDe;go_wp2_with fail;((with_reducible refine HDe.out.mono ?_); rintro e w4 ⟨vd, DL, rfl, hnd, hdi, hd60⟩)
        obtain ⟨Ad, cd, rfl⟩ := hnd.slice;have HB4 := hid (HB3.out.trans (hnd.2.mono HB3.out.size));have HDi := hid hdi;clear hnd hdi HDe b0 b1 b2 b3 d0 d1 d2;cases DL with
        | nil =>
         have HD0 := hid (HDi.out.1 rfl);clear HDi;go_wp2_with fail;go_ret;exact ⟨0, rfl, .inr (.inr (.inr (.inr ⟨HO.out, HBb.out, HLL.out, HD0.out, rfl⟩))), HB4.out⟩
        | cons x D9 =>
         have HD9 := hid (show RsD N LL from Classical.byContradiction fun h => by have := HDi.out.2 h; cases this);have q1 : decide (((x :: D9).length : Int) > 0) = true := by simp
         go_wp2_with fail;go_ret;exact ⟨4, rfl, .inr (.inr (.inr (.inl ⟨HO.out, HBb.out, HLL.out, rfl, HD9.out⟩))), HB4.out⟩
end Go.Proofs.YtkhmngljpfibcaaGreatDoor
