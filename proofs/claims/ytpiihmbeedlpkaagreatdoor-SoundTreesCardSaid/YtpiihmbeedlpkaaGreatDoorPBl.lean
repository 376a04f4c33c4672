/- The world of a space or a graph (sound), in memory; find, bounded, enabled, where: what a call returns. -/
import Derived.Test.YtpiihmbeedlpkaaGreatDoorPUu
import Derived.Test.YtpiihmbeedlpkaaGreatDoorPJc
import Derived.Test.YtpiihmbeedlpkaaGreatDoorPQj
import Derived.Test.YtpiihmbeedlpkaaGreatDoorPDe
namespace Go.Proofs.YtpiihmbeedlpkaaGreatDoor
set_option maxRecDepth 100000
set_option maxHeartbeats 3200000
open Go.Lib (hid)
open Go.RowKit

def LMv (w : World) (A : Option Addr) (OL : List (List Mv)) : Prop :=
 ∀ i (h : i < OL.length), ∃ ad, A = some ad ∧ (ad.add i).block < w.heap.size ∧ ∃ B n c, w.cell? (ad.add i) = some (.slice B n c) ∧ Rd mvC 3 w B OL[i] ∧ OL[i].length = n
theorem LMv.below {w w' : World} {A : Option Addr} {OL : List (List Mv)} (h : LMv w A OL) (hb : Below w.heap.size w w') : LMv w' A OL := by
 intro i hi;obtain ⟨ad, e, h1, B, n, c, h2, h3, h4⟩ := h i hi;exact ⟨ad, e, by have := hb.size; omega, B, n, c, cell_stays hb h2, h3.below hb, h4⟩
theorem BM.lmv {B : Nat} {wr : World} {v : Value} {SL : List Value} {LL : List (List Mv)} (h : BM B wr v SL LL) : ∃ A cap, v = .slice A LL.length cap ∧ LMv wr A LL := by
 have h1 := h.row;have hl := h.len;rcases h1.2 with ⟨hv, hn⟩ | ⟨g, cap, cur, hv, hg, hh, hnc, hc, _⟩
 · refine ⟨none, 0, by rw [hv, ← hl, hn], fun i hi => ?_⟩;omega
 · subst hv;have hgl : g < wr.heap.size := (Array.getElem?_eq_some_iff.1 hh).1;refine ⟨some ⟨g, 0, none⟩, cap, by rw [hl], fun i hi => ⟨_, rfl, by rw [add_block]; exact hgl, ?_⟩⟩;have hi2 : i < SL.length := by omega
   have he := h.els i _ _ (List.getElem?_eq_getElem hi2) (List.getElem?_eq_getElem hi);obtain ⟨B', c', e, _, _, _, hr, _⟩ := own_rd mvC_len (by decide) he;exact ⟨B', LL[i].length, c', by rw [← e]; exact h1.cells (g := g) rfl i _ (List.getElem?_eq_getElem hi2), hr, rfl⟩
def WdB (w : World) (b : Nat) (pl : Int) (A : Option Addr) (n c : Nat) (src snk : Int) (As : Option Addr) (ns cs : Nat) (Av : Option Addr) (nv cv : Nat) (fl : Bool) (Af : Option Addr) (nf cf : Nat) (vg : Value) : Prop :=
 w.heap[b]? = some (.cells #[.int .i64 pl, .slice A n c, .int .i64 src, .int .i64 snk, .slice As ns cs, .slice Av nv cv, .bool fl, .slice Af nf cf, vg] 68 (0, 0))
structure WdI (w : World) (b : Nat) (N : Nt) (LL : List (List Int)) (MV : List Mv) (fl : Bool) (A : Option Addr) (n c : Nat) (As : Option Addr) (cs : Nat) (Av : Option Addr) (cv : Nat) (Af : Option Addr) (cf : Nat) (Ag : Option Addr) (cg : Nat) : Prop where
 blk : WdB w b N.pl A n c N.src N.snk As LL.length cs Av MV.length cv fl Af (finM N).length cf (.slice Ag LL.length cg)
 net : NtIn w A N
 hn : N.tr.length = n
 st : LIn w As LL
 mv : Rd mvC 3 w Av MV
 fin : ZIn w Af (finM N)
 nx : LMv w Ag (outL MV LL.length)
section
variable {w w' : World} {b : Nat} {N : Nt} {LL : List (List Int)} {MV : List Mv} {fl : Bool} {A : Option Addr} {n c : Nat} {As : Option Addr} {cs : Nat} {Av : Option Addr} {cv : Nat} {Af : Option Addr} {cf : Nat} {Ag : Option Addr} {cg : Nat}
theorem WdI.lt (h : WdI w b N LL MV fl A n c As cs Av cv Af cf Ag cg) : b < w.heap.size := (Array.getElem?_eq_some_iff.1 (show w.heap[b]? = _ from h.blk)).1
theorem WdI.below (h : WdI w b N LL MV fl A n c As cs Av cv Af cf Ag cg) (hb : Below w.heap.size w w') : WdI w' b N LL MV fl A n c As cs Av cv Af cf Ag cg :=
 ⟨by unfold WdB; rw [hb.block b h.lt]; exact h.blk, h.net.below hb, h.hn, h.st.below hb, h.mv.below hb, h.fin.below hb, h.nx.below hb⟩
theorem WdI.cells (h : WdI w b N LL MV fl A n c As cs Av cv Af cf Ag cg) : w.cell? ⟨b, 0, none⟩ = some (.int .i64 N.pl) ∧ w.cell? ⟨b, 1, none⟩ = some (.slice A n c) ∧ w.cell? ⟨b, 2, none⟩ = some (.int .i64 N.src) ∧ w.cell? ⟨b, 3, none⟩ = some (.int .i64 N.snk) ∧ w.cell? ⟨b, 4, none⟩ = some (.slice As LL.length cs) ∧ w.cell? ⟨b, 5, none⟩ = some (.slice Av MV.length cv) ∧ w.cell? ⟨b, 6, none⟩ = some (.bool fl) ∧ w.cell? ⟨b, 7, none⟩ = some (.slice Af (finM N).length cf) ∧ w.cell? ⟨b, 8, none⟩ = some (.slice Ag LL.length cg) := by
 have h' : w.heap[b]? = _ := h.blk;simp [World.cell?, h']
end
theorem wfind1_any (Ax : Option Addr) (nx cx : Nat) (X : List Int) (pb : Nat) (Ay : Option Addr) (ny cy : Nat) (Y : List Int) (w : World) (hx : ZIn w Ax X) (hl : X.length = nx) (hn : nx ≤ 9223372036854775807) (h : MB w pb Ay ny cy Y) (hy : ny ≤ 9223372036854775807) :
 Calls Tryz.prog 51 #[.slice Ax nx cx, .pointer (some ⟨pb, 0, none⟩)] w fun e w' => e = .returned (.bool (isL Y X)) ∧ Below w.heap.size w w' := by
 obtain ⟨h1, h2, h3⟩ := h;have c0 : w.cell? ⟨pb, 0, none⟩ = some (.slice Ay ny cy) := by simp [World.cell?, h1]
 have HE := hid (equal_any Ax nx cx Ay ny cy X Y w hx hl h2 h3 hn hy);clear h1 h2 h3 hx hl;go_enter Tryz.func51, Tryz.ntmps51;go_wp2_with fail;((with_reducible refine HE.out.mono ?_); rintro e w1 ⟨rfl, hb1⟩)
 have HB1 := hid hb1;go_wp2_with fail;go_ret;exact ⟨rfl, HB1.out⟩
theorem lindex_wf (A : Option Addr) (n cap : Nat) (L : List (List Int)) (w : World) (h : LIn w A L) (hn : L.length = n) (hn4 : n ≤ 9223372036854775806) (pb : Nat) (Ay : Option Addr) (ny cy : Nat) (Y : List Int) (hy : ny ≤ 9223372036854775807) (hS : MB w pb Ay ny cy Y) :
 Calls Tryz.prog 50 #[.slice A n cap, .func (.func 51) #[] #[.pointer (some ⟨pb, 0, none⟩)]] w fun e w' => e = .returned (.int .i64 (lidx (isL Y) L)) ∧ Below w.heap.size w w' := by
 have H0 := hid h; clear h;have HN := hid hn; clear hn;have HSt := hid hS; clear hS;go_enter Tryz.func50, Tryz.ntmps50;go_wp2_with fail;go_loopg [8] (n) (fun g i wr => ∃ k : Nat, k + g = n ∧ i = .int .i64 k ∧ (∀ s ∈ L.take k, (isL Y) s = false) ∧ Below w.heap.size w wr);case atStart => exact ⟨0, by omega, rfl, by simp, Below.refl _ _⟩
 case round =>
  obtain ⟨k, hk, rfl, hno, hB⟩ := hrel;have HK := hid hk;have HNo := hid hno;have HB := hid hB;have HT := hid (H0.out.below hB);have hle : k ≤ n := by omega
  clear hk hno hB;by_cases hlt : k < n
  · have hlt' : k < L.length := by rw [HN.out]; exact hlt
    obtain ⟨ad, rfl, hp, u, c0, Ax, nx, cx, rfl, zx, hxl, hxc, hxd⟩ := HT.out k hlt';have HTk := hid (List.take_succ_eq_append_getElem hlt');have HAt := hid (lidx_at (p := (isL Y)) hlt');have hXm := List.getElem_mem hlt';generalize L[k] = X at *;have HX := hid (wfind1_any Ax nx cx X pb Ay ny cy Y wr zx hxl (by omega) (HSt.out.below HB.out) hy);clear hlt' zx hxl hXm;cases hv : (isL Y) X with
    | true =>
     rw [hv] at HX;have HV := hid (HAt.out hv HNo.out); clear hv;go_wp2_with fail;((with_reducible refine HX.out.mono ?_); rintro e w1 ⟨rfl, hb1⟩)
     have HB1 := hid (below_then HB.out hb1);go_wp2_with fail;go_ret;exact ⟨ret_int HV.out.symm, HB1.out⟩
    | false =>
     rw [hv] at HX;have HV := hid hv; clear hv HAt;go_wp2_with fail;((with_reducible refine HX.out.mono ?_); rintro e w1 ⟨rfl, hb1⟩)
     have HB1 := hid (below_then HB.out hb1);clear hb1;go_wp2_with fail;go_roundg (gk - 1);case measure => have := HK.out; omega
     case rel => exact ⟨k + 1, by have := HK.out; omega, by go_num, by
      rw [HTk.out]; intro s hs;rcases List.mem_append.1 hs with h1 | h1
      · exact HNo.out s h1
      · have : s = X := by simpa using h1
        rw [this]; exact HV.out, HB1.out⟩
  · have HV := hid (show lidx (isL Y) L = -1 from lidx_no (by have := HNo.out; rwa [List.take_of_length_le (by rw [HN.out]; omega)] at this));go_wp2_with fail;go_ret;exact ⟨ret_int HV.out.symm, HB.out⟩
theorem wfind_any (w : World) (b : Nat) (N : Nt) (LL : List (List Int)) (MV : List Mv) (fl : Bool) (A : Option Addr) (n c : Nat) (As : Option Addr) (cs : Nat) (Av : Option Addr) (cv : Nat) (Af : Option Addr) (cf : Nat) (Ag : Option Addr) (cg : Nat) (Am : Option Addr) (m cm : Nat) (M : List Int) (h : WdI w b N LL MV fl A n c As cs Av cv Af cf Ag cg) (hl2 : LL.length ≤ 9223372036854775806) (hM : ZIn w Am M) (hm : M.length = m) (hm2 : m ≤ 9223372036854775807) :
 Calls Tryz.prog 27 #[.pointer (some ⟨b, 0, none⟩), .slice Am m cm] w fun e w' => e = .returned (.int .i64 (lidx (isL M) LL)) ∧ Below w.heap.size w w' := by
 have HB := hid (below_alloc w (.cells #[.slice Am m cm] 34));have HC := hid (lindex_wf As LL.length cs LL _ (h.st.below HB.out) rfl hl2 w.heap.size Am m cm M hm2 ⟨heap_alloc_new w _, hM.below HB.out, hm⟩);have HW := hid (h.below HB.out);clear h hM hm;go_enter Tryz.func27, Tryz.ntmps27;obtain ⟨b0, b1, b2, b3, b4, b5, b6, b7, b8⟩ := HW.out.cells;go_wp2_with fail;((with_reducible refine HC.out.mono ?_); rintro e w2 ⟨rfl, hb2⟩)
 go_wp2_with fail;go_ret;exact ⟨rfl, below_then HB.out hb2⟩
theorem wbnd1_any (Ax : Option Addr) (nx cx : Nat) (X : List Int) (w : World) (hx : ZIn w Ax X) (hl : X.length = nx) (hn : nx ≤ 9223372036854775807) :
 Calls Tryz.prog 59 #[.slice Ax nx cx] w fun e w' => e = .returned (.bool (hasO X)) ∧ Below w.heap.size w w' := by
 have HE := hid (contains_any Ax nx cx X (-1) w hx hl hn);rw [show hasB X (-1) = hasO X from rfl] at HE;clear hx hl;go_enter Tryz.func59, Tryz.ntmps59;go_wp2_with fail;((with_reducible refine HE.out.mono ?_); rintro e w1 ⟨rfl, hb1⟩)
 have HB1 := hid hb1;go_wp2_with fail;go_ret;exact ⟨rfl, HB1.out⟩
theorem lindex_wb (A : Option Addr) (n cap : Nat) (L : List (List Int)) (w : World) (h : LIn w A L) (hn : L.length = n) (hn4 : n ≤ 9223372036854775806) :
 Calls Tryz.prog 50 #[.slice A n cap, .func (.func 59) #[] #[]] w fun e w' => e = .returned (.int .i64 (lidx hasO L)) ∧ Below w.heap.size w w' := by
 have H0 := hid h; clear h;have HN := hid hn; clear hn;skip;go_enter Tryz.func50, Tryz.ntmps50;go_wp2_with fail;go_loopg [8] (n) (fun g i wr => ∃ k : Nat, k + g = n ∧ i = .int .i64 k ∧ (∀ s ∈ L.take k, hasO s = false) ∧ Below w.heap.size w wr);case atStart => exact ⟨0, by omega, rfl, by simp, Below.refl _ _⟩
 case round =>
  obtain ⟨k, hk, rfl, hno, hB⟩ := hrel;have HK := hid hk;have HNo := hid hno;have HB := hid hB;have HT := hid (H0.out.below hB);have hle : k ≤ n := by omega
  clear hk hno hB;by_cases hlt : k < n
  · have hlt' : k < L.length := by rw [HN.out]; exact hlt
    obtain ⟨ad, rfl, hp, u, c0, Ax, nx, cx, rfl, zx, hxl, hxc, hxd⟩ := HT.out k hlt';have HTk := hid (List.take_succ_eq_append_getElem hlt');have HAt := hid (lidx_at (p := hasO) hlt');have hXm := List.getElem_mem hlt';generalize L[k] = X at *;have HX := hid (wbnd1_any Ax nx cx X wr zx hxl (by omega));clear hlt' zx hxl hXm;cases hv : hasO X with
    | true =>
     rw [hv] at HX;have HV := hid (HAt.out hv HNo.out); clear hv;go_wp2_with fail;((with_reducible refine HX.out.mono ?_); rintro e w1 ⟨rfl, hb1⟩)
     have HB1 := hid (below_then HB.out hb1);go_wp2_with fail;go_ret;exact ⟨ret_int HV.out.symm, HB1.out⟩
    | false =>
     rw [hv] at HX;have HV := hid hv; clear hv HAt;go_wp2_with fail;((with_reducible refine HX.out.mono ?_); rintro e w1 ⟨rfl, hb1⟩)
     have HB1 := hid (below_then HB.out hb1);clear hb1;go_wp2_with fail;go_roundg (gk - 1);case measure => have := HK.out; omega
     case rel => exact ⟨k + 1, by have := HK.out; omega, by go_num, by
      rw [HTk.out]; intro s hs;rcases List.mem_append.1 hs with h1 | h1
      · exact HNo.out s h1
      · have : s = X := by simpa using h1
        rw [this]; exact HV.out, HB1.out⟩
  · have HV := hid (show lidx hasO L = -1 from lidx_no (by have := HNo.out; rwa [List.take_of_length_le (by rw [HN.out]; omega)] at this));go_wp2_with fail;go_ret;exact ⟨ret_int HV.out.symm, HB.out⟩
theorem lcont_wb (A : Option Addr) (n cap : Nat) (L : List (List Int)) (w : World) (h : LIn w A L) (hn : L.length = n) (hn4 : n ≤ 9223372036854775806) :
 Calls Tryz.prog 58 #[.slice A n cap, .func (.func 59) #[] #[]] w fun e w' => e = .returned (.bool (L.any hasO)) ∧ Below w.heap.size w w' := by
 have HI := hid (lindex_wb A n cap L w h hn hn4);have HE := hid (lidx_any hasO L);clear h hn;generalize lidx hasO L = r at HI HE;go_enter Tryz.func58, Tryz.ntmps58;go_wp2_with fail;((with_reducible refine HI.out.mono ?_); rintro e w1 ⟨rfl, hb1⟩)
 have HB1 := hid hb1;go_wp2_with fail;go_ret;exact ⟨ret_bool HE.out, HB1.out⟩
theorem wbounded_any (w : World) (b : Nat) (N : Nt) (LL : List (List Int)) (MV : List Mv) (fl : Bool) (A : Option Addr) (n c : Nat) (As : Option Addr) (cs : Nat) (Av : Option Addr) (cv : Nat) (Af : Option Addr) (cf : Nat) (Ag : Option Addr) (cg : Nat) (h : WdI w b N LL MV fl A n c As cs Av cv Af cf Ag cg) (hl2 : LL.length ≤ 9223372036854775806) :
 Calls Tryz.prog 37 #[.pointer (some ⟨b, 0, none⟩)] w fun e w' => e = .returned (.bool (!(LL.any hasO))) ∧ Below w.heap.size w w' := by
 have HC := hid (lcont_wb As LL.length cs LL w h.st rfl hl2);have HW := hid h;generalize LL.any hasO = R at *;clear h;go_enter Tryz.func37, Tryz.ntmps37;obtain ⟨b0, b1, b2, b3, b4, b5, b6, b7, b8⟩ := HW.out.cells;go_wp2_with fail;((with_reducible refine HC.out.mono ?_); rintro e w2 ⟨rfl, hb2⟩)
 go_wp2_with fail;go_ret;exact ⟨rfl, hb2⟩
structure EnS (w : World) (wb kb b k : Nat) (N : Nt) (LL : List (List Int)) (MV : List Mv) (fl : Bool) (A : Option Addr) (n c : Nat) (As : Option Addr) (cs : Nat) (Av : Option Addr) (cv : Nat) (Af : Option Addr) (cf : Nat) (Ag : Option Addr) (cg : Nat) : Prop where
 p : w.heap[wb]? = some (.cells #[.pointer (some ⟨b, 0, none⟩)] 50 (0, 0))
 q : w.heap[kb]? = some (.cells #[.int .i64 (k : Int)] 3 (0, 0))
 i : WdI w b N LL MV fl A n c As cs Av cv Af cf Ag cg
theorem EnS.below {w w' : World} {wb kb b k : Nat} {N : Nt} {LL : List (List Int)} {MV : List Mv} {fl : Bool} {A : Option Addr} {n c : Nat} {As : Option Addr} {cs : Nat} {Av : Option Addr} {cv : Nat} {Af : Option Addr} {cf : Nat} {Ag : Option Addr} {cg : Nat} (h : EnS w wb kb b k N LL MV fl A n c As cs Av cv Af cf Ag cg) (hb : Below w.heap.size w w') : EnS w' wb kb b k N LL MV fl A n c As cs Av cv Af cf Ag cg :=
 ⟨by rw [hb.block wb (Array.getElem?_eq_some_iff.1 h.p).1]; exact h.p, by rw [hb.block kb (Array.getElem?_eq_some_iff.1 h.q).1]; exact h.q, h.i.below hb⟩
theorem wen1_any (p : Int) (wb kb b k : Nat) (N : Nt) (LL : List (List Int)) (MV : List Mv) (fl : Bool) (A : Option Addr) (n c : Nat) (As : Option Addr) (cs : Nat) (Av : Option Addr) (cv : Nat) (Af : Option Addr) (cf : Nat) (Ag : Option Addr) (cg : Nat) (w : World) (h : EnS w wb kb b k N LL MV fl A n c As cs Av cv Af cf Ag cg) (M : List Int) (hk : LL[k]? = some M) (hp : 0 ≤ p ∧ p < (M.length : Int)) :
 Calls Tryz.prog 73 #[.int .i64 p, .pointer (some ⟨wb, 0, none⟩), .pointer (some ⟨kb, 0, none⟩)] w fun e w' => e = .returned (.bool (zeroP M p)) ∧ Below w.heap.size w w' := by
 obtain ⟨j, rfl⟩ := Int.eq_ofNat_of_zero_le hp.1;obtain ⟨hkl, ek⟩ := List.getElem?_eq_some_iff.1 hk;have hj : j < M.length := by omega
 have HW := hid h.i;have c0 : w.cell? ⟨wb, 0, none⟩ = some (.pointer (some ⟨b, 0, none⟩)) := by have := h.p; simp [World.cell?, this]
 have c1 : w.cell? ⟨kb, 0, none⟩ = some (.int .i64 (k : Int)) := by have := h.q; simp [World.cell?, this]
 obtain ⟨sa, rfl, hsa, u, k0, Am, m, cm, rfl, hz, hml, _, _⟩ := h.i.st k hkl;rw [ek] at hz hml;obtain ⟨am, rfl, hma, r0⟩ := hz j hj;have HV := hid (show zeroP M (j : Int) = decide (M[j] = 0) by unfold zeroP; simp [hj]);have hki : (k : Int) < (LL.length : Int) := by omega
 have hji : (j : Int) < (m : Int) := by omega
 obtain ⟨b0, b1, b2, b3, b4, b5, b6, b7, b8⟩ := HW.out.cells;generalize zeroP M (j : Int) = R at *;generalize M[j] = x at *;clear h hk hp ek hj hkl hml;by_cases h0 : x = 0
 · have q1 : (x == 0) = true := by rw [h0]; rfl
   rw [decide_eq_true h0] at HV;clear h0;go_enter Tryz.func73, Tryz.ntmps73;go_wp2_with fail;go_quiet (fail);have hbq := below_drewN w nq;go_wp2_with fail;go_ret;exact ⟨ret_bool (by rw [HV.out]), hbq⟩
 · have q1 : (x == 0) = false := by rw [beq_eq_false_iff_ne]; exact h0
   rw [decide_eq_false h0] at HV;clear h0;go_enter Tryz.func73, Tryz.ntmps73;go_wp2_with fail;go_quiet (fail);have hbq := below_drewN w nq;go_wp2_with fail;go_ret;exact ⟨ret_bool (by rw [HV.out]), hbq⟩
theorem iindex_we (A : Option Addr) (n cap : Nat) (L : List Int) (w : World) (h : ZIn w A L) (hn : L.length = n) (hn4 : n ≤ 9223372036854775807) (wb kb b kk : Nat) (N : Nt) (LL : List (List Int)) (MV : List Mv) (fl : Bool) (A9 : Option Addr) (n9 c9 : Nat) (As : Option Addr) (cs : Nat) (Av : Option Addr) (cv : Nat) (Af : Option Addr) (cf : Nat) (Ag : Option Addr) (cg : Nat) (M : List Int) (hk : LL[kk]? = some M) (hS : EnS w wb kb b kk N LL MV fl A9 n9 c9 As cs Av cv Af cf Ag cg ∧ inM L M.length) :
 Calls Tryz.prog 84 #[.slice A n cap, .func (.func 73) #[] #[.pointer (some ⟨wb, 0, none⟩), .pointer (some ⟨kb, 0, none⟩)]] w (BIdx (!(L.any (zeroP M))) w) := by
 have H0 := hid h; clear h;have HN := hid hn; clear hn;have HSt := hid hS; clear hS;go_enter Tryz.func84, Tryz.ntmps84;go_wp2_with fail;go_loopg [8] (n) (fun g i wr => ∃ k : Nat, k + g = n ∧ i = .int .i64 k ∧ (L.take k).any (zeroP M) = false ∧ Below w.heap.size w wr);case atStart => exact ⟨0, by omega, rfl, by simp, Below.refl _ _⟩
 case round =>
  obtain ⟨k, hk, rfl, hno, hB⟩ := hrel;have HK := hid hk;have HNo := hid hno;have HB := hid hB;have HT := hid (H0.out.below hB);have hle : k ≤ n := by omega
  clear hk hno hB;by_cases hlt : k < n
  · have hlt' : k < L.length := by rw [HN.out]; exact hlt
    obtain ⟨ad, rfl, hp, c0⟩ := HT.out k hlt';have HTk := hid (List.take_succ_eq_append_getElem hlt');have HM := hid (List.getElem_mem hlt');generalize L[k] = x at *;clear hlt';have HX := hid (wen1_any x wb kb b kk N LL MV fl A9 n9 c9 As cs Av cv Af cf Ag cg wr (HSt.out.1.below HB.out) M hk (HSt.out.2 x HM.out));cases hv : (zeroP M) x with
    | true =>
     rw [hv] at HX;have HV := hid hv; clear hv;go_wp2_with fail;((with_reducible refine HX.out.mono ?_); rintro e w1 ⟨rfl, hb1⟩)
     go_wp2_with fail;go_ret;refine BIdx.yes ?_ rfl (below_then HB.out hb1);rw [List.any_eq_true.2 ⟨x, HM.out, HV.out⟩]; rfl
    | false =>
     rw [hv] at HX;have HV := hid hv; clear hv;go_wp2_with fail;((with_reducible refine HX.out.mono ?_); rintro e w1 ⟨rfl, hb1⟩)
     have HB1 := hid (below_then HB.out hb1);clear hb1;go_wp2_with fail;go_roundg (gk - 1);case measure => have := HK.out; omega
     case rel => exact ⟨k + 1, by have := HK.out; omega, by go_num, by rw [HTk.out, List.any_append, HNo.out]; simp [HV.out], HB1.out⟩
  · have HE := hid (show L.take k = L from List.take_of_length_le (by have := HN.out; omega));go_wp2_with fail;go_ret;refine BIdx.no ?_ rfl HB.out;rw [← HE.out, HNo.out]; rfl
theorem icont_we (A : Option Addr) (n cap : Nat) (L : List Int) (w : World) (h : ZIn w A L) (hn : L.length = n) (hn4 : n ≤ 9223372036854775807) (wb kb b kk : Nat) (N : Nt) (LL : List (List Int)) (MV : List Mv) (fl : Bool) (A9 : Option Addr) (n9 c9 : Nat) (As : Option Addr) (cs : Nat) (Av : Option Addr) (cv : Nat) (Af : Option Addr) (cf : Nat) (Ag : Option Addr) (cg : Nat) (M : List Int) (hk : LL[kk]? = some M) (hS : EnS w wb kb b kk N LL MV fl A9 n9 c9 As cs Av cv Af cf Ag cg ∧ inM L M.length) :
 Calls Tryz.prog 72 #[.slice A n cap, .func (.func 73) #[] #[.pointer (some ⟨wb, 0, none⟩), .pointer (some ⟨kb, 0, none⟩)]] w fun e w' => e = .returned (.bool (L.any (zeroP M))) ∧ Below w.heap.size w w' := by
 have HI := hid (iindex_we A n cap L w h hn hn4 wb kb b kk N LL MV fl A9 n9 c9 As cs Av cv Af cf Ag cg M hk hS);clear h hn hS;generalize L.any (zeroP M) = r at HI ⊢;cases r with
 | false =>
  go_enter Tryz.func72, Tryz.ntmps72;go_wp2_with fail;((with_reducible refine HI.out.mono ?_); rintro e w1 hP)
  obtain ⟨he, hb⟩ := hP;have he' : e = .returned (.int .i64 (-1)) := he;clear he; subst he';go_wp2_with fail;go_ret;exact ⟨rfl, hb⟩
 | true =>
  go_enter Tryz.func72, Tryz.ntmps72;go_wp2_with fail;((with_reducible refine HI.out.mono ?_); rintro e w1 hP)
  obtain ⟨he, hb⟩ := hP;obtain ⟨i, he'⟩ : ∃ i : Nat, e = .returned (.int .i64 i) := he;subst he';go_wp2_with fail;go_ret;exact ⟨rfl, hb⟩
theorem wenabled_any (w : World) (b : Nat) (N : Nt) (LL : List (List Int)) (MV : List Mv) (fl : Bool) (A : Option Addr) (n c : Nat) (As : Option Addr) (cs : Nat) (Av : Option Addr) (cv : Nat) (Af : Option Addr) (cf : Nat) (Ag : Option Addr) (cg : Nat) (k t : Nat) (h : WdI w b N LL MV fl A n c As cs Av cv Af cf Ag cg) (M : List Int) (hk : LL[k]? = some M) (ht : t < N.tr.length) (hin : inM N.tr[t].i M.length) (ht2 : N.tr[t].i.length ≤ 1000000) :
 Calls Tryz.prog 61 #[.pointer (some ⟨b, 0, none⟩), .int .i64 (k : Int), .int .i64 (t : Int)] w fun e w' => e = .returned (.bool (canT N.tr[t] M)) ∧ Below w.heap.size w w' := by
 have HB := hid (two_boxes w (.cells #[.pointer (some ⟨b, 0, none⟩)] 50) (.cells #[.int .i64 (k : Int)] 3));have e1 : ((w.alloc (.cells #[.pointer (some ⟨b, 0, none⟩)] 50)).alloc (.cells #[.int .i64 (k : Int)] 3)).heap[w.heap.size]? = some (.cells #[.pointer (some ⟨b, 0, none⟩)] 50 (0, 0)) := by
  rw [(below_alloc (w.alloc (.cells #[.pointer (some ⟨b, 0, none⟩)] 50)) (.cells #[.int .i64 (k : Int)] 3)).block _ (by simp)]; exact heap_alloc_new w _
 have e2 := heap_alloc_new (w.alloc (.cells #[.pointer (some ⟨b, 0, none⟩)] 50)) (.cells #[.int .i64 (k : Int)] 3);rw [World.size_alloc] at e2;have HW := hid (h.below HB.out);have HEs := hid (EnS.mk e1 e2 HW.out);have hnl := h.hn;obtain ⟨ad, rfl, hpa, t0, ⟨u1, t1, s1⟩, u2, t2, s2⟩ := HW.out.net.1 t ht;have HR := hid (can_any N.tr[t] M);generalize N.tr[t] = T at *;obtain ⟨lb, li, lo⟩ := T;simp only at t0 t1 s1 t2 s2 HR hin ht2;obtain ⟨Ai, ni, ci, rfl, zi, hi1, hi2, hi3⟩ := s1;have HC := hid (icont_we Ai ni ci li _ zi hi1 (by omega) w.heap.size (w.heap.size + 1) b k N LL MV fl (some ad) n c As cs Av cv Af cf Ag cg M hk ⟨HEs.out, hin⟩);generalize canT ⟨lb, li, lo⟩ M = R at HR ⊢;generalize li.any (zeroP M) = Q at *;have hti : (t : Int) < (n : Int) := by omega
 have c0 : ((w.alloc (.cells #[.pointer (some ⟨b, 0, none⟩)] 50)).alloc (.cells #[.int .i64 (k : Int)] 3)).cell? ⟨w.heap.size, 0, none⟩ = some (.pointer (some ⟨b, 0, none⟩)) := by simp only [World.cell?, e1]; rfl
 obtain ⟨b0, b1, b2, b3, b4, b5, b6, b7, b8⟩ := HW.out.cells;clear h e1 e2 hk ht zi hi1 hi2 hi3 s2 hin HEs;go_enter Tryz.func61, Tryz.ntmps61;go_wp2_with fail;((with_reducible refine HC.out.mono ?_); rintro e w2 ⟨rfl, hb2⟩)
 go_wp2_with fail;go_ret;exact ⟨ret_bool (by rw [HR.out]), below_then HB.out hb2⟩
theorem wwhere_any (w : World) (b : Nat) (N : Nt) (LL : List (List Int)) (MV : List Mv) (fl : Bool) (A : Option Addr) (n c : Nat) (As : Option Addr) (cs : Nat) (Av : Option Addr) (cv : Nat) (Af : Option Addr) (cf : Nat) (Ag : Option Addr) (cg : Nat) (t : Nat) (h : WdI w b N LL MV fl A n c As cs Av cv Af cf Ag cg) (hl2 : LL.length ≤ 9223372036854775806) (ht : t < N.tr.length) (hin : ∀ s ∈ LL, inM N.tr[t].i s.length) (ht2 : N.tr[t].i.length ≤ 1000000) :
 Calls Tryz.prog 40 #[.pointer (some ⟨b, 0, none⟩), .int .i64 (t : Int)] w fun e w' => e = .returned (.int .i64 (lidx (canT N.tr[t]) LL)) ∧ Below w.heap.size w w' := by
 have HW0 := hid h;have HIn := hid hin;have HW := hid h;obtain ⟨nl, hnl⟩ : ∃ nl, nl = LL.length := ⟨_, rfl⟩;obtain ⟨b0, b1, b2, b3, b4, b5, b6, b7, b8⟩ := HW.out.cells;rw [← hnl] at b4;clear h hin HW;go_enter Tryz.func40, Tryz.ntmps40;go_wp2_with fail;clear b0 b1 b2 b3 b4 b5 b6 b7 b8;go_loopg [12] (nl) (fun g iv wr => ∃ k : Nat, k + g = nl ∧ iv = .int .i64 (k : Int) ∧ (∀ s ∈ LL.take k, canT N.tr[t] s = false) ∧ Below w.heap.size w wr);case atStart => exact ⟨0, by omega, rfl, by simp, Below.refl _ _⟩
 case round =>
  obtain ⟨k, hk, rfl, hno, hB⟩ := hrel;have HK := hid hk;have HNo := hid hno;have HB := hid hB;have hle : k ≤ nl := by omega
  clear hk hno hB;by_cases hlt : k < nl
  · have hlt' : k < LL.length := by omega
    have HEn := hid (wenabled_any wr b N LL MV fl A n c As cs Av cv Af cf Ag cg k t (HW0.out.below HB.out) LL[k] (List.getElem?_eq_getElem hlt') ht (HIn.out _ (List.getElem_mem hlt')) ht2);have HTk := hid (List.take_succ_eq_append_getElem hlt');have HAt := hid (lidx_at (p := canT N.tr[t]) hlt');generalize LL[k] = X at *;clear hlt';cases hv : canT N.tr[t] X with
    | true =>
     rw [hv] at HEn;have HV := hid (HAt.out hv HNo.out);clear hv HAt HTk;go_wp2_with fail;((with_reducible refine HEn.out.mono ?_); rintro e w1 ⟨rfl, hb1⟩)
     have HB1 := hid (below_then HB.out hb1);go_wp2_with fail;go_ret;exact ⟨ret_int HV.out.symm, HB1.out⟩
    | false =>
     rw [hv] at HEn;have HV := hid hv;clear hv HAt;go_wp2_with fail;((with_reducible refine HEn.out.mono ?_); rintro e w1 ⟨rfl, hb1⟩)
     have HB1 := hid (below_then HB.out hb1);clear hb1;go_wp2_with fail;go_roundg (gk - 1);case measure => have := HK.out; omega
     case rel => exact ⟨k + 1, by have := HK.out; omega, by go_num, by
      rw [HTk.out]; intro s hs;rcases List.mem_append.1 hs with h1 | h1
      · exact HNo.out s h1
      · have : s = X := by simpa using h1
        rw [this]; exact HV.out, HB1.out⟩
  · have HV := hid (show lidx (canT N.tr[t]) LL = -1 from lidx_no (by have := HNo.out; rwa [List.take_of_length_le (by omega)] at this));go_wp2_with fail;go_ret;exact ⟨ret_int HV.out.symm, HB.out⟩
end Go.Proofs.YtpiihmbeedlpkaaGreatDoor
