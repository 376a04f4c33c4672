/- The path in a space, plain; formed of reference 22: what a call returns. Path of reference 22: what a call returns. Completes of reference 28: what a call returns. reached of sound: what a call returns. Find and formed of space: what a call returns. A queue whose head moves on (queue = queue[1:]), in memory; an append onto it. -/
import Derived.Test.YtkhmngljpfibcaaGreatDoorPUu
import Derived.Test.YtkhmngljpfibcaaGreatDoorPAk
import Derived.Test.YtkhmngljpfibcaaGreatDoorPHg
import Derived.Test.YtkhmngljpfibcaaGreatDoorPBl
import Derived.Test.YtkhmngljpfibcaaGreatDoorPYi
import Derived.Test.YtkhmngljpfibcaaGreatDoorPBf
import Derived.Test.YtkhmngljpfibcaaGreatDoorPBz
import Derived.Test.YtkhmngljpfibcaaGreatDoorPAf
import Derived.Test.YtkhmngljpfibcaaGreatDoorPBu
import Derived.ArgAppend
namespace Go.Proofs.YtkhmngljpfibcaaGreatDoor
set_option maxRecDepth 100000
set_option maxHeartbeats 6400000
open Go.Lib (hid)
section
open Go.RowKit

def bfF (MV : List Mv) (n : Nat) : BfS := bfAll MV (n + 1) 0 (bfStart n)
def pathV (MV : List Mv) (n j : Nat) : List Int × Int := if j = 0 ∨ bNone (bfF MV n).B j = false then ((bfBack (bfF MV n).B (n + 1) j).reverse, 0) else ([], 10)
def qI (Q : List Nat) : List Int := Q.map fun x : Nat => (x : Int)
theorem qI_len (Q : List Nat) : (qI Q).length = Q.length := by simp [qI]
theorem qI_at {Q : List Nat} {i q : Nat} (h : Q[i]? = some q) : (qI Q)[i]? = some (q : Int) := by simp [qI, h]
theorem qI_app (Q : List Nat) (t : Nat) : qI (Q ++ [t]) = qI Q ++ [(t : Int)] := by simp [qI]
theorem bfAll_step {MV : List Mv} {f i q : Nat} {S : BfS} (h : S.Q[i]? = some q) : bfAll MV (f + 1) i S = bfAll MV f (i + 1) (bfRow MV q S) := by rw [bfAll, h]
theorem bfAll_end {MV : List Mv} {f i : Nat} {S : BfS} (h : S.Q.length ≤ i) : bfAll MV f i S = S := by
 cases f with
 | zero => rfl
 | succ f => rw [bfAll, List.getElem?_eq_none h]
theorem BfI.room {MV : List Mv} {n : Nat} {S : BfS} (h : BfI MV n S) : S.Q.length ≤ n := nodup_len n S.Q h.nod h.rng
theorem BfI.row1 {MV : List Mv} {n : Nat} {S : BfS} (h : BfI MV n S) {i q : Nat} (hq : S.Q[i]? = some q) {m : Mv} (hm : m ∈ MV) (hn : mvOk MV n) : BfI MV n (bfOne q S m) ∧ (bfOne q S m).Q[i]? = some q := by
 refine ⟨h.one hq hm hn, ?_⟩;obtain ⟨_, _, L, e⟩ := bfOne_le q S m;rw [e, List.getElem?_append_left (List.getElem?_eq_some_iff.1 hq).1]; exact hq
theorem fold_snoc {S : BfS} {MV : List Mv} {q k : Nat} (hk : k < MV.length) : (MV.take (k + 1)).foldl (bfOne q) S = bfOne q ((MV.take k).foldl (bfOne q) S) MV[k] := by
 rw [List.take_succ_eq_append_getElem hk, List.foldl_append]; rfl
theorem bfOne_keep {q : Nat} {S : BfS} {m : Mv} (h : ¬ (m.f = (q : Int) ∧ m.t ≠ 0 ∧ bNone S.B m.t.toNat = true)) : bfOne q S m = S := if_neg h
theorem bfOne_put {q t : Nat} {S : BfS} {m : Mv} (h1 : m.f = (q : Int)) (h2 : m.t = (t : Int)) (h3 : t ≠ 0) (h4 : bNone S.B t = true) : bfOne q S m = ⟨S.B.set t (some m), S.Q ++ [t]⟩ := by
 have e : m.t.toNat = t := by omega
 unfold bfOne; rw [e, if_pos ⟨h1, by omega, h4⟩]
theorem BfI.has {MV : List Mv} {n : Nat} {S : BfS} (h : BfI MV n S) {j : Nat} (hj : j < n) (hb : j = 0 ∨ bNone S.B j = false) : ∃ a, S.Q[a]? = some j ∧ a < n := by
 have hm : j ∈ S.Q := by
  rcases hb with rfl | hb
  · exact List.mem_of_getElem? h.q0
  · have hl : j < S.B.length := by rw [h.len]; exact hj
    cases e : S.B[j] with
    | none =>
     have := (bNone_iff S.B j).2 (by rw [List.getElem?_eq_getElem hl, e]);rw [this] at hb; cases hb
    | some m => exact (h.met j m (by rw [List.getElem?_eq_getElem hl, e])).1
 obtain ⟨a, ha, e⟩ := List.getElem_of_mem hm;exact ⟨a, by rw [List.getElem?_eq_getElem ha, e], by have := h.room; omega⟩
theorem BfI.back {MV : List Mv} {n : Nat} {S : BfS} (h : BfI MV n S) {a j : Nat} (ha : S.Q[a]? = some j) (hn : a < n) (h0 : j ≠ 0) : ∃ (m : Mv) (b f : Nat), S.B[j]? = some (some m) ∧ m ∈ MV ∧ m.f = (f : Int) ∧ b < a ∧ S.Q[b]? = some f ∧ bfBack S.B (n + 1) j = m.s :: bfBack S.B (n + 1) f := by
 obtain ⟨m, b, f, h1, h2, h3, h4, h5, h6⟩ := h.by_ a j ha (by omega);refine ⟨m, b, f, h1, h2, h4, h5, h6, ?_⟩;rw [bfBack, if_neg h0, h1];simp only;rw [show m.f.toNat = f by omega, back_fuel h b f h6 n (n + 1) (by omega) (by omega)]
theorem back_zero (B : List (Option Mv)) (f : Nat) : bfBack B (f + 1) 0 = [] := by rw [bfBack, if_pos rfl]
end
section
open Go.RowKit

theorem cell_far2 {w : World} {b b' o o' : Nat} {u x : Value} (h : w.cell? ⟨b', o', none⟩ = some x) (hn : b' ≠ b) : (w.setCell ⟨b, o, none⟩ u).cell? ⟨b', o', none⟩ = some x :=
 (Lib.grownBy_setB (grown_refl w (some b)) o u).cell h (fun e => hn (Option.some.inj e))
end
section
open Go.RowKit

theorem exOne_mv {N : Nt} {most i k : Nat} {m : List Int} {E E' : ExS} (h : exOne N most i m k E = some E') (hl : E.MV.length ≤ 20000) : E'.MV.length ≤ 20000 := by
 unfold exOne at h;split at h
 · cases h; exact hl
 · split at h
   · split at h
     · cases h; exact hl
     · split at h
       · split at h
         · cases h
         · cases h; simp; omega
       · split at h
         · split at h
           · cases h
           · cases h; simp; omega
         · cases h; exact hl
   · cases h; exact hl
theorem exTo_mv {N : Nt} {most i : Nat} {m : List Int} : ∀ (k : Nat) {E E' : ExS}, exTo N most i m k E = some E' → E.MV.length ≤ 20000 → E'.MV.length ≤ 20000
 | 0, E, E', h, hl => by cases h; exact hl
 | k + 1, E, E', h, hl => by
  rw [exTo] at h;obtain ⟨E1, h1, h2⟩ := Option.bind_eq_some_iff.1 h;exact exOne_mv h2 (exTo_mv k h1 hl)
theorem exFrom_mv {N : Nt} {most : Nat} : ∀ (f i : Nat) {E E' : ExS}, exFrom N most f i E = some E' → E.MV.length ≤ 20000 → E'.MV.length ≤ 20000
 | 0, i, E, E', h, hl => by cases h
 | f + 1, i, E, E', h, hl => by
  rw [exFrom] at h;split at h
  · cases h; exact hl
  · obtain ⟨E1, h1, h2⟩ := Option.bind_eq_some_iff.1 h;exact exFrom_mv f (i + 1) h2 (exTo_mv _ h1 hl)
theorem exT_mv {N : Nt} {M : List Int} {most : Nat} {E : ExS} (h : exT N M most = some E) : E.MV.length ≤ 20000 := exFrom_mv _ _ h (by simp)
def complV (N : Nt) (M : List Int) (most : Nat) : List Int × Int := match exT N M most with
 | none => ([], 13)
 | some E => if 0 ≤ lidx (isL (finM N)) E.SL then pathV E.MV E.SL.length (lidx (isL (finM N)) E.SL).toNat else if E.fl then ([], 10) else ([], 13)
theorem lidx_nat {p : List Int → Bool} {L : List (List Int)} (h : 0 ≤ lidx p L) : ∃ k : Nat, lidx p L = (k : Int) ∧ k < L.length := by
 unfold lidx at h ⊢;split
 · rename_i e; rw [if_pos e] at h; omega
 · rename_i e; exact ⟨_, rfl, by have := List.findIdx_le_length (p := p) (xs := L); omega⟩
end
section
open Go.RowKit

def ReaPo (N : Nt) (M : List Int) (mn : Nat) (A : Option Addr) (n c : Nat) (w : World) (e : Ending) (w' : World) : Prop := Below w.heap.size w w' ∧
  ((exT N M mn = none ∧ e = .returned (.tuple #[.pointer none, .int .i64 13])) ∨
   ∃ (E : ExS) (b : Nat) (As : Option Addr) (cs : Nat) (Av : Option Addr) (cv : Nat) (Af : Option Addr) (cf : Nat) (Ag : Option Addr) (cg : Nat), exT N M mn = some E ∧ e = .returned (.tuple #[.pointer (some ⟨b, 0, none⟩), .int .i64 0]) ∧ WdI w' b N E.SL E.MV E.fl A n c As cs Av cv Af cf Ag cg)
theorem sreached_any (N : Nt) (A : Option Addr) (n c : Nat) (Am : Option Addr) (m cm : Nat) (M : List Int) (mn : Nat) (w : World) (h : NtIn w A N) (hn : N.tr.length = n) (hn2 : n ≤ 9223372036854775807) (hM : ZIn w Am M) (hm : M.length = m) (hmk : mkB N M = true) (h1 : 1 ≤ mn) (h2 : mn ≤ 2000) :
 Calls Tryz.prog 72 #[.agg #[.int .i64 N.pl, .slice A n c, .int .i64 N.src, .int .i64 N.snk], .slice Am m cm, .int .i64 (mn : Int)] w (ReaPo N M mn A n c w) := by
 have HB0 := hid (below_alloc w (.cells #[.int .i64 N.pl, .slice A n c, .int .i64 N.src, .int .i64 N.snk] 24));have HNb0 := hid (NB.new w N.pl A n c N.src N.snk);have HIn0 := hid (h.below HB0.out);have HEx := hid (explore_any N A n c Am m cm M mn _ (h.below HB0.out) hn (hM.below HB0.out) hm hmk h1 h2);have HNl := hid hn;have HMk := hid hmk;clear h hn hM hm hmk;go_enter Tryz.func72, Tryz.ntmps72;go_wp2_with fail;generalize w.alloc _ = w0 at *;obtain ⟨b0, b1, b2, b3⟩ := HNb0.out.cells;cases hR : exT N M mn with
 | none =>
  rw [hR] at HEx;have HR := hid hR;unfold ExPo at HEx;simp only at HEx;((with_reducible refine HEx.out.mono ?_); rintro e w1 ⟨hb1, rfl⟩)
  have HB1 := hid (below_then (below_then HB0.out hb1) (below_alloc w1 (.cells #[.slice none 0 0, .slice none 0 0, .bool false] 41)));clear hb1 HEx hR b0 b1 b2 b3;go_wp2_with fail;go_ret2;exact ⟨HB1.out, .inl ⟨HR.out, rfl⟩⟩
 | some E =>
  rw [hR] at HEx;have HR := hid hR;have HSp := hid (exT_spc HMk.out h1 hR);have HMv := hid (exT_mv hR);unfold ExPo at HEx;simp only at HEx;((with_reducible refine HEx.out.mono ?_); rintro e w1 ⟨hb1, vS, vM, rfl, hOl, hOm⟩)
  obtain ⟨SL, MV, fl⟩ := E;simp only at HMv hOl hOm;obtain ⟨As, cs, rfl⟩ := hOl.slice;obtain ⟨Av, cv, rfl⟩ := hOm.slice;have hal := below_alloc w1 (.cells #[.slice As SL.length cs, .slice Av MV.length cv, .bool fl] 41);have hsb := heap_alloc_new w1 (.cells #[.slice As SL.length cs, .slice Av MV.length cv, .bool fl] 41);have HSb := hid (show SpB _ w1.heap.size (.slice As SL.length cs) (.slice Av MV.length cv) fl from hsb);have HLn := hid ((oll_lin hOl).below hal);have HRd := hid ((omv_rd hOm).below hal);have HNb := hid ((HNb0.out.below hb1).below hal);have HIn := hid ((HIn0.out.below hb1).below hal);have HB := hid (below_then (below_then HB0.out hb1) hal);have hsl1 : SL.length ≤ 2000 := by have := HSp.out.le; simp only at this; omega
  have hmvl : MV.length ≤ 20000 := HMv.out;have HMo := hid (show mvOk MV SL.length from HSp.out.mvf.ok);clear hal hsb hOl hOm hb1 HEx hR HNb0 HIn0 HB0 b0 b1 b2 b3;obtain ⟨b0, b1, b2, b3⟩ := HNb.out.cells;obtain ⟨e0, e1, e2⟩ := HSb.out.cells;have HGa := hid (gather_any N A n c As cs SL Av cv MV fl _ HIn.out HNl.out hn2 (mk_nt HMk.out) HLn.out HRd.out HMo.out (by omega) hmvl);go_wp2_with fail;((with_reducible refine HGa.out.mono ?_); rintro e w4 ⟨b, Af, cf, Ag, cg, rfl, hW, hb4⟩)
  have HW := hid hW;have HB4 := hid (below_then HB.out hb4);clear hW hb4 HGa b0 b1 b2 b3 e0 e1 e2;go_wp2_with fail;go_ret2;exact ⟨HB4.out, .inr ⟨⟨SL, MV, fl⟩, b, As, cs, Av, cv, Af, cf, Ag, cg, HR.out, rfl, HW.out⟩⟩
end
section
open Go.RowKit

theorem sfind1_any (Ax : Option Addr) (nx cx : Nat) (X : List Int) (pb : Nat) (Ay : Option Addr) (ny cy : Nat) (Y : List Int) (w : World) (hx : ZIn w Ax X) (hl : X.length = nx) (hn : nx ≤ 9223372036854775807) (h : MB w pb Ay ny cy Y) (hy : ny ≤ 9223372036854775807) :
 Calls Tryz.prog 142 #[.slice Ax nx cx, .pointer (some ⟨pb, 0, none⟩)] w fun e w' => e = .returned (.bool (isL Y X)) ∧ Below w.heap.size w w' := by
 obtain ⟨h1, h2, h3⟩ := h;have c0 : w.cell? ⟨pb, 0, none⟩ = some (.slice Ay ny cy) := by simp [World.cell?, h1]
 have HE := hid (equal_any Ax nx cx Ay ny cy X Y w hx hl h2 h3 hn hy);clear h1 h2 h3 hx hl;go_enter Tryz.func142, Tryz.ntmps142;go_wp2_with fail;((with_reducible refine HE.out.mono ?_); rintro e w1 ⟨rfl, hb1⟩)
 have HB1 := hid hb1;go_wp2_with fail;go_ret;exact ⟨rfl, HB1.out⟩
theorem lindex_sf (A : Option Addr) (n cap : Nat) (L : List (List Int)) (w : World) (h : LIn w A L) (hn : L.length = n) (hn4 : n ≤ 9223372036854775806) (pb : Nat) (Ay : Option Addr) (ny cy : Nat) (Y : List Int) (hy : ny ≤ 9223372036854775807) (hS : MB w pb Ay ny cy Y) :
 Calls Tryz.prog 132 #[.slice A n cap, .func (.func 142) #[] #[.pointer (some ⟨pb, 0, none⟩)]] w fun e w' => e = .returned (.int .i64 (lidx (isL Y) L)) ∧ Below w.heap.size w w' := by
 have H0 := hid h; clear h;have HN := hid hn; clear hn;have HSt := hid hS; clear hS;go_enter Tryz.func132, Tryz.ntmps132;go_wp2_with fail;go_loopg [8] (n) (fun g i wr => ∃ k : Nat, k + g = n ∧ i = .int .i64 k ∧ (∀ s ∈ L.take k, (isL Y) s = false) ∧ Below w.heap.size w wr);case atStart => exact ⟨0, by omega, rfl, by simp, Below.refl _ _⟩
 case round =>
  obtain ⟨k, hk, rfl, hno, hB⟩ := hrel;have HK := hid hk;have HNo := hid hno;have HB := hid hB;have HT := hid (H0.out.below hB);have hle : k ≤ n := by omega
  clear hk hno hB;by_cases hlt : k < n
  · have hlt' : k < L.length := by rw [HN.out]; exact hlt
    obtain ⟨ad, rfl, hp, u, c0, Ax, nx, cx, rfl, zx, hxl, hxc, hxd⟩ := HT.out k hlt';have HTk := hid (List.take_succ_eq_append_getElem hlt');have HAt := hid (lidx_at (p := (isL Y)) hlt');have hXm := List.getElem_mem hlt';generalize L[k] = X at *;have HX := hid (sfind1_any Ax nx cx X pb Ay ny cy Y wr zx hxl (by omega) (HSt.out.below HB.out) hy);clear hlt' zx hxl hXm;cases hv : (isL Y) X with
    | true =>
     rw [hv] at HX;have HV := hid (HAt.out hv HNo.out); clear hv;go_wp2_with fail;((with_reducible refine HX.out.mono ?_); rintro e w1 ⟨rfl, hb1⟩)
     have HB1 := hid (below_then HB.out hb1);go_wp2_with fail;go_ret;exact ⟨ret_int HV.out.symm, HB1.out⟩
    | false =>
     rw [hv] at HX;have HV := hid hv; clear hv HAt;go_wp2_with fail;((with_reducible refine HX.out.mono ?_); rintro e w1 ⟨rfl, hb1⟩)
     have HB1 := hid (below_then HB.out hb1);clear hb1;go_wp2_with fail;go_roundg (gk - 1);case measure => have := HK.out; omega
     case rel => exact ⟨k + 1, by have := HK.out; omega, by go_num, by
      rw [HTk.out]; intro s hs;rcases List.mem_append.1 hs with h1 | h1
      · exact HNo.out s h1
      · have : s = X := by simpa using h1
        rw [this]; exact HV.out, HB1.out⟩
  · have HV := hid (show lidx (isL Y) L = -1 from lidx_no (by have := HNo.out; rwa [List.take_of_length_le (by rw [HN.out]; omega)] at this));go_wp2_with fail;go_ret;exact ⟨ret_int HV.out.symm, HB.out⟩
theorem sfind_any (As : Option Addr) (n cs : Nat) (Av : Option Addr) (nm cv : Nat) (fl : Bool) (LL : List (List Int)) (Am : Option Addr) (m cm : Nat) (M : List Int) (w : World) (h : LIn w As LL) (hn : LL.length = n) (hn4 : n ≤ 9223372036854775806) (hM : ZIn w Am M) (hm : M.length = m) (hm2 : m ≤ 9223372036854775807) :
 Calls Tryz.prog 68 #[.agg #[.slice As n cs, .slice Av nm cv, .bool fl], .slice Am m cm] w fun e w' => e = .returned (.int .i64 (lidx (isL M) LL)) ∧ Below w.heap.size w w' := by
 have HB := hid (two_boxes w (.cells #[.slice As n cs, .slice Av nm cv, .bool fl] 41) (.cells #[.slice Am m cm] 27));have hb1 := heap_alloc_new (w.alloc (.cells #[.slice As n cs, .slice Av nm cv, .bool fl] 41)) (.cells #[.slice Am m cm] 27);rw [World.size_alloc] at hb1;have HC := hid (lindex_sf As n cs LL _ (h.below HB.out) hn hn4 (w.heap.size + 1) Am m cm M hm2 ⟨hb1, hM.below HB.out, hm⟩);have hsb := heap_alloc_new w (.cells #[.slice As n cs, .slice Av nm cv, .bool fl] 41);have HSb := hid ((show SpB _ w.heap.size (.slice As n cs) (.slice Av nm cv) fl from hsb).below (below_alloc _ (.cells #[.slice Am m cm] 27)));obtain ⟨s0, s1, s2⟩ := HSb.out.cells;clear h hM hm hn hb1 hsb;go_enter Tryz.func68, Tryz.ntmps68;go_wp2_with fail;((with_reducible refine HC.out.mono ?_); rintro e w2 ⟨rfl, hb2⟩)
 have HB2 := hid (below_then HB.out hb2);go_wp2_with fail;go_ret;exact ⟨rfl, HB2.out⟩
theorem sform1_any (xf xt xs k9 : Int) (kb : Nat) (w : World) (h : KB w kb k9) (r1 : 0 ≤ xf) (r2 : xf < k9) (r3 : 0 ≤ xt) (r4 : xt < k9) :
 Calls Tryz.prog 193 #[.agg #[.int .i64 xf, .int .i64 xt, .int .i64 xs], .pointer (some ⟨kb, 0, none⟩)] w fun e w' => e = .returned (.bool false) ∧ Below w.heap.size w w' := by
 have HB := hid (below_alloc w (.cells #[.int .i64 xf, .int .i64 xt, .int .i64 xs] 113));have k0 := (h.below HB.out).cell;have y1 : decide (xf < 0) = false := decide_eq_false (by omega);have y2 : decide (xf ≥ k9) = false := decide_eq_false (by omega);have y3 : decide (xt < 0) = false := decide_eq_false (by omega);have y4 : decide (xt ≥ k9) = false := decide_eq_false (by omega);clear h;go_enter Tryz.func193, Tryz.ntmps193;go_wp2_with fail;go_ret;exact ⟨rfl, HB.out⟩
theorem mindex_sf (A : Option Addr) (n cap : Nat) (L : List Mv) (w : World) (h : Rd mvC 3 w A L) (hn : L.length = n) (hn4 : n ≤ 9223372036854775806) (kb n9 : Nat) (hS : KB w kb (n9 : Int)) (hmo : mvOk L n9) :
 Calls Tryz.prog 121 #[.slice A n cap, .func (.func 193) #[] #[.pointer (some ⟨kb, 0, none⟩)]] w fun e w' => e = .returned (.int .i64 (-1)) ∧ Below w.heap.size w w' := by
 have H0 := hid h; clear h;have HN := hid hn; clear hn;have HSt := hid hS; clear hS;have HMo := hid hmo; clear hmo;go_enter Tryz.func121, Tryz.ntmps121;go_wp2_with fail;go_loopg [8] (n) (fun g i wr => ∃ k : Nat, k + g = n ∧ i = .int .i64 k ∧ Below w.heap.size w wr);case atStart => exact ⟨0, by omega, rfl, Below.refl _ _⟩
 case round =>
  obtain ⟨k, hk, rfl, hB⟩ := hrel;have HK := hid hk;have HB := hid hB;have HT := hid (H0.out.below hB);have hle : k ≤ n := by omega
  clear hk hB;by_cases hlt : k < n
  · have hlt' : k < L.length := by rw [HN.out]; exact hlt
    obtain ⟨am, rfl, hpa, m0, m1, m2⟩ := mv_cells HT.out hlt';obtain ⟨r1, r2, r3, r4⟩ := HMo.out _ (List.getElem_mem hlt');generalize L[k] = X at *;obtain ⟨xf, xt, xs⟩ := X;simp only at m0 m1 m2 r1 r2 r3 r4;have HX := hid (sform1_any xf xt xs (n9 : Int) kb wr (HSt.out.below HB.out) r1 r2 r3 r4);clear hlt';go_wp2_with fail;((with_reducible refine HX.out.mono ?_); rintro e w1 ⟨rfl, hb1⟩)
    have HB1 := hid (below_then HB.out hb1);clear hb1;go_wp2_with fail;go_roundg (gk - 1);case measure => have := HK.out; omega
    case rel => exact ⟨k + 1, by have := HK.out; omega, by go_num, HB1.out⟩
  · go_wp2_with fail;go_ret;exact ⟨rfl, HB.out⟩
theorem mcont_sf (A : Option Addr) (n cap : Nat) (L : List Mv) (w : World) (h : Rd mvC 3 w A L) (hn : L.length = n) (hn4 : n ≤ 9223372036854775806) (kb n9 : Nat) (hS : KB w kb (n9 : Int)) (hmo : mvOk L n9) :
 Calls Tryz.prog 192 #[.slice A n cap, .func (.func 193) #[] #[.pointer (some ⟨kb, 0, none⟩)]] w fun e w' => e = .returned (.bool false) ∧ Below w.heap.size w w' := by
 have HI := hid (mindex_sf A n cap L w h hn hn4 kb n9 hS hmo);clear h hn hS hmo;go_enter Tryz.func192, Tryz.ntmps192;go_wp2_with fail;((with_reducible refine HI.out.mono ?_); rintro e w1 ⟨rfl, hb1⟩)
 have HB1 := hid hb1;go_wp2_with fail;go_ret;exact ⟨rfl, HB1.out⟩
theorem sformed_any (As : Option Addr) (n cs : Nat) (Av : Option Addr) (nm cv : Nat) (fl : Bool) (MV : List Mv) (w : World) (h1 : 0 < n) (h2 : n ≤ 2000) (h3 : nm ≤ 20000) (hm : MV.length = nm) (hr : Rd mvC 3 w Av MV) (ho : mvOk MV n) :
 Calls Tryz.prog 143 #[.agg #[.slice As n cs, .slice Av nm cv, .bool fl]] w fun e w' => e = .returned (.bool true) ∧ Below w.heap.size w w' := by
 have HB := hid (two_boxes w (.cells #[.slice As n cs, .slice Av nm cv, .bool fl] 41) (.cells #[.int .i64 (n : Int)] 3));have hb1 := heap_alloc_new (w.alloc (.cells #[.slice As n cs, .slice Av nm cv, .bool fl] 41)) (.cells #[.int .i64 (n : Int)] 3);rw [World.size_alloc] at hb1;have HKb := hid (show KB _ (w.heap.size + 1) (n : Int) from hb1);have hsb := heap_alloc_new w (.cells #[.slice As n cs, .slice Av nm cv, .bool fl] 41);have HSb := hid ((show SpB _ w.heap.size (.slice As n cs) (.slice Av nm cv) fl from hsb).below (below_alloc _ (.cells #[.int .i64 (n : Int)] 3)));have HC := hid (mcont_sf Av nm cv MV _ (hr.below HB.out) hm (by omega) (w.heap.size + 1) n HKb.out ho);have q1 : decide ((n : Int) > 0) = true := decide_eq_true (by omega);have q2 : decide ((n : Int) ≤ 2000) = true := decide_eq_true (by omega);have q3 : decide ((nm : Int) ≤ 20000) = true := decide_eq_true (by omega);clear hr hm ho hb1 hsb;go_enter Tryz.func143, Tryz.ntmps143
 go_upto_region 2 with (fail)
 obtain ⟨s0, s1, s2⟩ := HSb.out.cells;have k0 := HKb.out.cell;go_wp2_with fail;((with_reducible refine HC.out.mono ?_); rintro e w2 ⟨rfl, hb2⟩)
 have HB2 := hid (below_then HB.out hb2);go_wp2_with fail;go_ret;exact ⟨rfl, HB2.out⟩
end
section
open Go.RowKit

def QO (U : Nat) (w : World) (v : Value) (Q : List Int) : Prop :=
 ∃ g k cap cur, v = .slice (some ⟨g, k, none⟩) Q.length cap ∧ U ≤ g ∧ w.heap[g]? = some (.cells cur 3 (0, 0)) ∧ Q.length ≤ cap ∧ cap ≤ maxLen ∧ k + cap ≤ cur.size ∧ ∀ (j : Nat) (x : Int), Q[j]? = some x → cur[k + j]? = some (.int .i64 x)
section
variable {U : Nat} {w w' : World} {v : Value} {Q : List Int}
theorem QO.lt (h : QO U w v Q) : ∀ g, v.ownBlock = some g → U ≤ g ∧ g < w.heap.size := by
 obtain ⟨g, k, cap, cur, rfl, h1, h2, _⟩ := h;intro g' e;simp [Value.ownBlock] at e;subst e;exact ⟨h1, (Array.getElem?_eq_some_iff.1 h2).1⟩
theorem QO.kept {row : Option Nat} (h : QO U w v Q) (hg : w.grownBy w' row) (hne : v.ownBlock = none ∨ v.ownBlock ≠ row) : QO U w' v Q := by
 obtain ⟨g, k, cap, cur, rfl, h1, h2, h3⟩ := h;refine ⟨g, k, cap, cur, rfl, h1, ?_, h3⟩;rw [hg.block g (Array.getElem?_eq_some_iff.1 h2).1 (by simpa [Value.ownBlock] using hne)];exact h2
theorem QO.below (h : QO U w v Q) (hb : Below w.heap.size w w') : QO U w' v Q := by
 obtain ⟨g, k, cap, cur, rfl, h1, h2, h3⟩ := h;exact ⟨g, k, cap, cur, rfl, h1, by rw [hb.block g (Array.getElem?_eq_some_iff.1 h2).1]; exact h2, h3⟩
theorem QO.at_ (h : QO U w v Q) : ∃ g k cap, v = .slice (some ⟨g, k, none⟩) Q.length cap ∧ Q.length ≤ cap ∧ cap ≤ maxLen ∧ U ≤ g ∧ g < w.heap.size ∧ ∀ (j : Nat) (x : Int), Q[j]? = some x → w.cell? ⟨g, k + j, none⟩ = some (.int .i64 x) := by
 obtain ⟨g, k, cap, cur, rfl, h1, h2, h3, h4, h5, h6⟩ := h;exact ⟨g, k, cap, rfl, h3, h4, h1, (Array.getElem?_eq_some_iff.1 h2).1, fun j x hj => by rw [cell_of_row w g (k + j) cur 3 (0, 0) h2]; exact h6 j x hj⟩
theorem QO.tail {x : Int} (h : QO U w v (x :: Q)) : ∃ g k cap, v = .slice (some ⟨g, k, none⟩) (Q.length + 1) cap ∧ QO U w (sliced (some ⟨g, k, none⟩) 1 (Q.length + 1) cap 1) Q := by
 obtain ⟨g, k, cap, cur, rfl, h1, h2, h3, h4, h5, h6⟩ := h;simp only [List.length_cons] at h3;refine ⟨g, k, cap, rfl, ?_⟩;unfold sliced;by_cases hc : cap = 1
 · have hq : Q = [] := List.eq_nil_of_length_eq_zero (by omega);subst hq;rw [if_pos hc];exact ⟨g, k, cap - 1, cur, rfl, h1, h2, by simp, by omega, by omega, fun j y hj => by simp at hj⟩
 · rw [if_neg hc];refine ⟨g, k + 1, cap - 1, cur, ?_, h1, h2, by omega, by omega, by omega, fun j y hj => ?_⟩
   · simp [Addr.add_lit]
   · rw [show k + 1 + j = k + (j + 1) by omega]; exact h6 (j + 1) y (by simpa using hj)
theorem QO.of_row (h : w'.ownsRow w.heap.size 3 1 v Q.length (Q.map (Value.int .i64))) (hu : U ≤ w.heap.size) (h0 : 0 < Q.length) : QO U w' v Q := by
 rcases h.2 with ⟨_, e⟩ | ⟨g, cap, cur, rfl, h1, h2, h3, h4, h5, h6⟩
 · omega
 · refine ⟨g, 0, cap, cur, rfl, by omega, h2, h3, h4, by omega, fun j x hj => ?_⟩;have hl := (List.getElem?_eq_some_iff.1 hj).1;have e1 : (Q.map (Value.int .i64))[j]? = some (.int .i64 x) := by rw [List.getElem?_map, hj]; rfl
   rw [← h6, List.getElem?_take, if_pos (by omega)] at e1;rw [Nat.zero_add]; simpa using e1
end
theorem wpList_append_qo {P : Program} {w : World} {U : Nat} {ops : Array Oper} {rest : List Oper} {o : Oper} {a : Act} {R : Exit → Act → World → Prop}
 (hg : o.guard = none) (s x : Operand) (t : TypeId) (hop : o.op = Op.call { callee := Callee.builtin Builtin.append, args := #[s, x], argTypes := #[t, t] })
 (i : TypeInfo) (h1 : P.underlying t = some (.slice 3)) (h2 : P.info? 3 = some i) (h3 : i.zero = some (.int .i64 0)) (h4 : i.size = 1) (h5 : i.bytes = 8)
 (v : Value) (Q : List Int) (hs : a.eval s = v) (hq : QO U w v Q) (hU : U ≤ w.heap.size) (hl : Q.length ≤ 1000000)
 (ad : Addr) (c : Nat) (y : Int) (hx : a.eval x = .slice (some ad) 1 c) (hc : w.cell? ad = some (.int .i64 y))
 (hK : ∀ v' w', QO U w' v' (Q ++ [y]) → w.grownBy w' v.ownBlock → wpList P ops R rest (a.put o.dst v') w') :
 wpList P ops R (o :: rest) a w := by
 obtain ⟨g, k, cap, cur, rfl, q1, q2, q3, q4, q5, q6⟩ := hq;have hcell : ∀ j, w.cell? ⟨g, k + j, none⟩ = cur[k + j]? := fun j => by rw [cell_of_row w g (k + j) cur 3 (0, 0) q2]
 have hnews : ∀ j u, ([Value.int .i64 y] : List Value)[j]? = some u → w.cell? (ad.add j) = some u := by
  intro j u hj
  match j, hj with
  | 0, hj => simp at hj; subst hj; rw [show ad.add 0 = ad from by unfold Addr.add; split <;> simp_all]; exact hc
  | j + 1, hj => simp at hj
 have holds : ∀ j u, (Q.map (Value.int .i64))[j]? = some u → w.cell? ⟨g, k + j, none⟩ = some u := by
  intro j u hj;rw [List.getElem?_map] at hj;cases e : Q[j]? with
  | none => rw [e] at hj; cases hj
  | some z =>
   rw [e] at hj; cases hj;rw [hcell]; exact q6 j z e
 have hfz : ∀ o, w.frozen? ⟨g, o, none⟩ = false := fun o => by simp [World.frozen?, q2]
 refine wpList_append_arg w hg s x t hop 3 i (.int .i64 0) 1 8 h1 h2 h3 h4 h5 rfl (by decide) g k Q.length cap (Q.map (Value.int .i64)) hs (by simp) holds ad 1 c [.int .i64 y] hx rfl hnews (by intro u hu; simp at hu; subst hu; rfl)
  (fun hr j hj => ?_) (by unfold maxLen; omega) (by omega) (fun hr => ?_) (fun _ v' w' ho hgr => ?_)
 · simp at hj;subst hj;refine ⟨?_, hfz _⟩;rw [show k + Q.length * 1 + 0 = k + Q.length by omega, hcell];simp; omega
 · have hst : w.setCells g (k + Q.length * 1) [.int .i64 y] = w.setCell ⟨g, k + Q.length, none⟩ (.int .i64 y) := by simp [World.setCells]
   rw [hst];refine hK _ _ ⟨g, k, cap, cur.setIfInBounds (k + Q.length) (.int .i64 y), by simp, q1, ?_, by simp; omega, q4, by simp; omega, fun j z hj => ?_⟩ (Lib.grownBy_setB (grown_refl w (some g)) _ _)
   · simp [World.setCell, Array.getElem?_modify, q2]
   · rw [Array.getElem?_setIfInBounds];rcases Nat.lt_or_ge j Q.length with h9 | h9
     · rw [if_neg (by omega)];rw [List.getElem?_append_left h9] at hj;exact q6 j z hj
     · rw [List.getElem?_append_right h9] at hj;have : j - Q.length = 0 := by
        rcases Nat.eq_zero_or_pos (j - Q.length) with h8 | h8
        · exact h8
        · rw [List.getElem?_eq_none (by simp; omega)] at hj; cases hj
       rw [this] at hj;simp at hj;subst hj;rw [if_pos (by omega), if_pos (by omega)]
 · refine hK _ _ (QO.of_row (w := w) (by rw [List.length_append, List.map_append]; exact ho) hU (by simp)) ⟨hgr.os, hgr.tape, hgr.output, hgr.size, fun k hk _ => hgr.block k hk (by simp)⟩
end
end Go.Proofs.YtkhmngljpfibcaaGreatDoor
