/- after of sound (what a state leads to): what a call returns. The path in a space, plain; formed of reference 22: what a call returns. IndexFunc on moves with the closure of sound's proof: what a call returns. -/
import Derived.Test.YtkhmngljpfibcaaGreatDoorPUu
import Derived.Test.YtkhmngljpfibcaaGreatDoorPAd
import Derived.Test.YtkhmngljpfibcaaGreatDoorPBj
import Derived.Test.YtkhmngljpfibcaaGreatDoorPQo
import Derived.Test.YtkhmngljpfibcaaGreatDoorPAz
namespace Go.Proofs.YtkhmngljpfibcaaGreatDoor
set_option maxRecDepth 100000
set_option maxHeartbeats 12800000
open Go.Lib (hid)
section
open Go.RowKit

structure AfS (MV : List Mv) (n start sb : Nat) (w1 : World) (B : List Bool) (Q : List Int) (i : Nat) (part : List Mv) (qv : Value) (wr : World) : Prop where
 af : AfI MV n start B Q i part
 bl : BL wr sb B
 que : QR w1.heap.size wr qv Q
 bel : Below w1.heap.size w1 wr
 il : i ≤ Q.length
theorem qr_below {U : Nat} {w w' : World} {v : Value} {Q : List Int} (h : QR U w v Q) (hb : Below w.heap.size w w') : QR U w' v Q := own_stays h hb
theorem AfS.below {MV : List Mv} {n start sb : Nat} {w1 : World} {B : List Bool} {Q : List Int} {i : Nat} {part : List Mv} {qv : Value} {wr w' : World} (h : AfS MV n start sb w1 B Q i part qv wr) (hb : Below wr.heap.size wr w') : AfS MV n start sb w1 B Q i part qv w' :=
 ⟨h.af, h.bl.below hb, qr_below h.que hb, below_then h.bel hb, h.il⟩
theorem wafter_any (w : World) (b : Nat) (N : Nt) (LL : List (List Int)) (MV : List Mv) (fl : Bool) (A : Option Addr) (n c : Nat) (As : Option Addr) (cs : Nat) (Av : Option Addr) (cv : Nat) (Af : Option Addr) (cf : Nat) (Ag : Option Addr) (cg : Nat) (from_ : Nat) (h : WdI w b N LL MV fl A n c As cs Av cv Af cf Ag cg) (hmo : mvOk MV LL.length) (hf : from_ < LL.length) (hl2 : LL.length ≤ 1000000) (hv2 : MV.length ≤ 20000) :
 Calls Tryz.prog 51 #[.pointer (some ⟨b, 0, none⟩), .int .i64 (from_ : Int)] w fun e w' => ∃ v B Q i, e = .returned v ∧ QR w.heap.size w' v Q ∧ Below w.heap.size w w' ∧ AfI MV LL.length from_ B Q i [] ∧ Q.length ≤ i := by
 have HW := hid h;have HMo := hid hmo;obtain ⟨b0, b1, b2, b3, b4, b5, b6, b7, b8⟩ := h.cells;obtain ⟨n9, hn9⟩ : ∃ n9, n9 = LL.length := ⟨_, rfl⟩;have HN9 := hid hn9;rw [← hn9] at b4 hf hl2;have hmk : ∀ w : World, (Instr.makeSlice 94 (.int .i64 (n9 : Int)) (.int .i64 (n9 : Int))).run Tryz.prog w = .ok (.slice (some ⟨w.heap.size, 0, none⟩) n9 n9) (w.alloc (.cells (madeCells #[.bool false] n9) 4)) := fun w => run_make_row' 94 4 (.bool false) 1 Tryz.underlying94 (by kernel_rfl) rfl .i64 .i64 n9 (by omega) (by omega) w
 obtain ⟨i0, hi, hz0, hz1, hz2⟩ := info_parts intInfo;have HI := hid (And.intro hi (And.intro hz0 (And.intro hz1 hz2)));clear hi hz0 hz1 hz2 h hmo hn9;have hfi : (from_ : Int) < (n9 : Int) := by omega
 have hc0 : (madeCells #[Value.bool false] n9)[from_]? = some (.bool false) := by rw [← Array.getElem?_toList, toList_madeCells_one]; simp [hf]
 go_enter Tryz.func51, Tryz.ntmps51;go_wp2_with fail;clear hmk b0 b1 b2 b3 b4 b5 b6 b7 b8;have HX1 := heap_alloc_new w (.cells ((madeCells #[.bool false] n9).setIfInBounds from_ (.bool true)) 4);have hal := below_alloc (w.alloc (.cells ((madeCells #[.bool false] n9).setIfInBounds from_ (.bool true)) 4)) (.cells #[.int .i64 (from_ : Int)] 3);have HBl0 : BL ((w.alloc (.cells ((madeCells #[.bool false] n9).setIfInBounds from_ (.bool true)) 4)).alloc (.cells #[.int .i64 (from_ : Int)] 3)) w.heap.size ((List.replicate n9 false).set from_ true) := by
  unfold BL;rw [hal.block _ (by simp), HX1]
  congr 2
  apply Array.ext';rw [Array.toList_setIfInBounds, toList_madeCells_one, List.map_set, List.map_replicate]
 have HQ0 : QR w.heap.size ((w.alloc (.cells ((madeCells #[.bool false] n9).setIfInBounds from_ (.bool true)) 4)).alloc (.cells #[.int .i64 (from_ : Int)] 3)) (.slice (some ⟨w.heap.size + 1, 0, none⟩) 1 1) [(from_ : Int)] := by
  have := World.ownsRow_lit (base := w.heap.size) (e := 3) (size := 1) (w.alloc (.cells ((madeCells #[.bool false] n9).setIfInBounds from_ (.bool true)) 4)) #[.int .i64 (from_ : Int)] 1 (by simp) (by unfold maxLen; omega) rfl;rw [World.size_alloc] at this;exact this
 have HAf0 := hid (AfS.mk (AfI.start MV n9 from_ hf) HBl0 HQ0 (below_then (below_alloc w _) hal) (Nat.zero_le _));clear HX1 hal HBl0 HQ0 hc0;generalize (w.alloc _).alloc _ = w1 at *;rw [HN9.out] at HAf0;generalize hsb : w.heap.size = sb at *;go_loopg [6, 7] (n9) (fun g qv iv wr => ∃ (i : Nat) (B : List Bool) (Q : List Int), i + g = n9 ∧ iv = .int .i64 (i : Int) ∧ AfS MV LL.length from_ sb w B Q i [] qv wr);case atStart => exact ⟨0, _, _, by omega, rfl, HAf0.out⟩
 case round =>
  clear HAf0;obtain ⟨i, B, Q, hig, rfl, hA⟩ := hrel;obtain ⟨Aq, cq, rfl⟩ := hA.que.slice;have HA := hid hA;have HK := hid hig;have hQn : Q.length ≤ n9 := by rw [HN9.out]; exact hA.af.room
  have hil := hA.il;have HWr := hid (HW.out.below hA.bel);clear hig;by_cases hlt : i < Q.length
  · obtain ⟨c9, hc⟩ : ∃ c9, Q[i]? = some c9 := ⟨_, List.getElem?_eq_getElem hlt⟩;obtain ⟨gq, cq', he, hgq, hgql, r0⟩ := hA.que.at_ hc;cases he;obtain ⟨hr0, hr1⟩ := hA.af.rng c9 (List.mem_of_getElem? hc);obtain ⟨cn, rfl⟩ := Int.eq_ofNat_of_zero_le hr0;have hcn : cn < LL.length := by omega
    have hsO : cn < (outL MV LL.length).length := by rw [outL_len]; exact hcn
    obtain ⟨ag, rfl, hga, Bm, nr, cr, g9, hrd, hrl⟩ := HW.out.nx cn hsO;have g0 := cell_stays hA.bel g9;have hrow : (outL MV LL.length)[cn]? = some (outL MV LL.length)[cn] := List.getElem?_eq_getElem hsO;have hshort := outL_short MV LL.length cn hrow;have HMem := hid (outL_mem MV LL.length cn hrow);generalize (outL MV LL.length)[cn]'_ = OL at *;obtain ⟨b0, b1, b2, b3, b4, b5, b6, b7, b8⟩ := HWr.out.cells;rw [← HN9.out] at b4 b8;have HRd := hid hrd;have HRl := hid hrl;have HC := hid hc;have hnr : nr ≤ 20000 := by omega
    have hii : (i : Int) < (Q.length : Int) := by omega
    have hci : (cn : Int) < (n9 : Int) := by rw [HN9.out]; omega
    clear hA hrd hrl hrow hc hr0 hr1;go_wp2_with fail;go_quiet (fail);have hbq := below_drewN wr nq;have HA1 := hid (HA.out.below hbq);clear HA HWr b0 b1 b2 b3 b4 b5 b6 b7 b8 r0 g0 g9 hbq;generalize wr.drewN nq = w2 at *;go_wp2_with fail;obtain ⟨go, rfl⟩ : ∃ go, go = gk := ⟨_, rfl⟩;obtain ⟨wo, rfl⟩ : ∃ wo : World, wo = w2 := ⟨_, rfl⟩;go_loopg [39, 6] (nr) (fun g jv qv wr => ∃ (j : Nat) (B : List Bool) (Q : List Int), j + g = nr ∧ jv = .int .i64 (j : Int) ∧ Q[i]? = some (cn : Int) ∧ AfS MV LL.length from_ sb w B Q i (OL.take j) qv wr);case atStart => exact ⟨0, B, Q, by omega, rfl, HC.out, by rw [List.take_zero]; exact HA1.out⟩
    case round =>
     clear HA1 HC hgq hgql hii hQn hil hlt;obtain ⟨j, B2, Q2, hjg, rfl, hc2, hA2⟩ := hrel;obtain ⟨Aq2, cq2, rfl⟩ := hA2.que.slice;have HA := hid hA2;have HJ := hid hjg;have HC := hid hc2;have hjl : j ≤ nr := by omega
     have hQ2 : Q2.length ≤ 1000000 := by have := hA2.af.room; rw [← HN9.out] at this; omega
     clear hjg;by_cases hjt : j < nr
     · have hjt' : j < OL.length := by rw [HRl.out]; exact hjt
       obtain ⟨hxm, hxf⟩ := (HMem.out OL[j]).1 (List.getElem_mem hjt');obtain ⟨_, _, r3, r4⟩ := HMo.out _ hxm;obtain ⟨t, htt⟩ := Int.eq_ofNat_of_zero_le r3;have htn : t < LL.length := by omega
       have hBt : t < B2.length := by rw [hA2.af.len]; exact htn
       have HTk := hid (List.take_succ_eq_append_getElem hjt');have HOne := hid (hA2.af.one hc2 hxm hxf HMo.out);obtain ⟨am, rfl, hpa, m0, m1, m2⟩ := mv_cells (HRd.out.below hA2.bel) hjt';have hsbl := hA2.bl.lt;have y0 := hA2.bl.cell hBt;have hbt : B2.getD t false = B2[t] := by simp [hBt]
       have hti : (t : Int) < (n9 : Int) := by rw [HN9.out]; omega
       have hil2 := (List.getElem?_eq_some_iff.1 hc2).1;rw [show OL[j].t.toNat = t by omega, hbt] at HOne;rw [htt] at m1;have HXt := hid htt;generalize OL[j] = x at *;obtain ⟨xf, xt, xs⟩ := x;simp only at m0 m1 m2 HXt HOne;clear hxm hxf r3 r4 htt hjt';cases hb : B2[t] with
       | true =>
        rw [hb] at HOne y0;simp only [if_true] at HOne;have y1 := cell_stays (below_alloc wr (.cells #[.int .i64 xf, .int .i64 (t : Int), .int .i64 xs] 113)) y0;have HA5 := hid (AfS.mk HOne.out (hA2.bl.below (below_alloc wr (.cells #[.int .i64 xf, .int .i64 (t : Int), .int .i64 xs] 113))) (qr_below hA2.que (below_alloc wr (.cells #[.int .i64 xf, .int .i64 (t : Int), .int .i64 xs] 113))) (below_then hA2.bel (below_alloc wr (.cells #[.int .i64 xf, .int .i64 (t : Int), .int .i64 xs] 113))) hA2.il);clear hA2 HA hb;go_wp2_with fail;go_roundg (gk - 1);case measure => have := HJ.out; omega
        case rel => exact ⟨j + 1, B2, Q2, by have := HJ.out; omega, by go_num, HC.out, by rw [HTk.out]; exact HA5.out⟩
       | false =>
        rw [hb] at HOne y0;rw [if_neg (by decide), if_neg (by decide), HXt.out] at HOne;have ha := below_alloc wr (.cells #[.int .i64 xf, .int .i64 (t : Int), .int .i64 xs] 113);have y1 := cell_stays ha y0;have y2 := (hA2.bl.below ha).soft t;have y3 := hA2.bl.soft t;have hset : wr.grownBy (wr.setCell ⟨sb, t, none⟩ (.bool true)) (some sb) := Lib.grownBy_setB (grown_refl wr (some sb)) t _;have ha2 := below_alloc (wr.setCell ⟨sb, t, none⟩ (.bool true)) (.cells #[.int .i64 xf, .int .i64 (t : Int), .int .i64 xs] 113);have HQs := hid (qr_below (show QR w.heap.size (wr.setCell ⟨sb, t, none⟩ (.bool true)) (.slice Aq2 Q2.length cq2) Q2 from hA2.que.kept hset (own_other hA2.que hA2.bl (by decide))) ha2);have HBs := hid ((hA2.bl.set t true).below ha2);have HBe := hid (((hA2.bel.setCell (p := ⟨sb, t, none⟩) (by show w.heap.size ≤ sb; omega) (.bool true))).alloc (by have := hA2.bel.size; simp; omega) (.cells #[.int .i64 xf, .int .i64 (t : Int), .int .i64 xs] 113));have hsz2 : (wr.setCell ⟨sb, t, none⟩ (.bool true)).heap.size = wr.heap.size := by simp
        have hx9 := heap_alloc_new (wr.setCell ⟨sb, t, none⟩ (.bool true)) (.cells #[.int .i64 xf, .int .i64 (t : Int), .int .i64 xs] 113);rw [hsz2] at hx9;obtain ⟨x0, x1, x2⟩ := mvb_cells9 hx9;clear hA2 HA hb hset ha ha2;go_wp2_with (at_builtin; refine wpList_append_own _ rfl _ _ 27 rfl w.heap.size 3 i0 (.int .i64 0) 1 8 Tryz.underlying27 HI.out.1 HI.out.2.1 HI.out.2.2.1 HI.out.2.2.2 rfl (by decide) (.slice Aq2 Q2.length cq2) _ _ rfl (HQs.out.alloc _) ⟨wr.heap.size + 1, 0, none⟩ 1 1 [.int .i64 (t : Int)] rfl rfl ?c1 ?c2 ?c3 ?c4 ?c5 ?_);case c2 => rfl
        case c3 => unfold maxLen; omega
        case c4 => omega
        case c5 => have := HBe.out.size; simp at this ⊢; omega
        intro v7 w7 hown7 hgrow7 _;have HQ7 := hid (show QR w.heap.size w7 v7 (Q2 ++ [(t : Int)]) from by rw [hsb]; unfold QR; rw [List.length_append, List.map_append]; exact hown7);have hnb := row_block (HQs.out.alloc (.cells #[.int .i64 (t : Int)] 3)) (HBs.out.below (below_alloc _ _)) (by decide);have HB7 := hid (show BL w7 sb (B2.set t true) from by unfold BL; rw [hgrow7.block sb (HBs.out.below (below_alloc _ _)).lt hnb]; exact HBs.out.below (below_alloc _ _));have HE7 := hid ((HBe.out.alloc HBe.out.size (.cells #[.int .i64 (t : Int)] 3)).grown hgrow7 (by have := HBe.out.size; simp at this ⊢; omega) (fun k hk => (HQs.out.lt k hk).1));have HA7 := hid (AfS.mk HOne.out HB7.out HQ7.out HE7.out (by rw [List.length_append]; omega));have HC7 := hid (show (Q2 ++ [(t : Int)])[i]? = some (cn : Int) by rw [List.getElem?_append_left hil2]; exact HC.out);clear hown7 hgrow7 hnb HQs HBs HBe hx9 x0 x1 x2 y0 y1 y2 y3 hsz2 HQ7 HB7 HE7;go_wp2_with fail;go_roundg (gk - 1);case measure => have := HJ.out; omega
        case rel => exact ⟨j + 1, _, _, by have := HJ.out; omega, by go_num, HC7.out, by rw [HTk.out, HXt.out]; exact HA7.out⟩
     · have HA7 := hid (show AfS MV LL.length from_ sb w B2 Q2 (i + 1) [] (.slice Aq2 Q2.length cq2) wr from ⟨hA2.af.next hc2 (fun x hx hf => by rw [List.take_of_length_le (by rw [HRl.out]; omega)]; exact (HMem.out x).2 ⟨hx, hf⟩), hA2.bl, hA2.que, hA2.bel, by have := (List.getElem?_eq_some_iff.1 hc2).1; omega⟩);have hin : i < n9 := by have h1 := (List.getElem?_eq_some_iff.1 hc2).1; have h2 := hA2.af.room; rw [← HN9.out] at h2; omega
       clear hA2 HA hc2;go_wp2_with fail;go_roundg (go - 1);case measure => have := HK.out; omega
       case rel => exact ⟨i + 1, B2, Q2, by have := HK.out; omega, by go_num, HA7.out⟩
  · have hE := hA.af;go_wp2_with fail;go_ret;exact ⟨_, B, Q, i, rfl, by rw [← hsb] at *; exact HA.out.que, HA.out.bel, HA.out.af, by omega⟩
end
section
open Go.RowKit

def bfF (MV : List Mv) (n : Nat) : BfS := bfAll MV (n + 1) 0 (bfStart n)
def pathV (MV : List Mv) (n j : Nat) : List Int × Int := if j = 0 ∨ bNone (bfF MV n).B j = false then ((bfBack (bfF MV n).B (n + 1) j).reverse, 0) else ([], 10)
def qI (Q : List Nat) : List Int := Q.map fun x : Nat => (x : Int)
theorem qI_len (Q : List Nat) : (qI Q).length = Q.length := by simp [qI]
theorem qI_at {Q : List Nat} {i q : Nat} (h : Q[i]? = some q) : (qI Q)[i]? = some (q : Int) := by simp [qI, h]
theorem qI_app (Q : List Nat) (t : Nat) : qI (Q ++ [t]) = qI Q ++ [(t : Int)] := by simp [qI]
theorem bfAll_step {MV : List Mv} {f i q : Nat} {S : BfS} (h : S.Q[i]? = some q) : bfAll MV (f + 1) i S = bfAll MV f (i + 1) (bfRow MV q S) := by rw [bfAll, h]
theorem bfAll_end {MV : List Mv} {f i : Nat} {S : BfS} (h : S.Q.length ≤ i) : bfAll MV f i S = S := by
 cases f with
 | zero => rfl
 | succ f => rw [bfAll, List.getElem?_eq_none h]
theorem BfI.room {MV : List Mv} {n : Nat} {S : BfS} (h : BfI MV n S) : S.Q.length ≤ n := nodup_len n S.Q h.nod h.rng
theorem BfI.row1 {MV : List Mv} {n : Nat} {S : BfS} (h : BfI MV n S) {i q : Nat} (hq : S.Q[i]? = some q) {m : Mv} (hm : m ∈ MV) (hn : mvOk MV n) : BfI MV n (bfOne q S m) ∧ (bfOne q S m).Q[i]? = some q := by
 refine ⟨h.one hq hm hn, ?_⟩;obtain ⟨_, _, L, e⟩ := bfOne_le q S m;rw [e, List.getElem?_append_left (List.getElem?_eq_some_iff.1 hq).1]; exact hq
theorem fold_snoc {S : BfS} {MV : List Mv} {q k : Nat} (hk : k < MV.length) : (MV.take (k + 1)).foldl (bfOne q) S = bfOne q ((MV.take k).foldl (bfOne q) S) MV[k] := by
 rw [List.take_succ_eq_append_getElem hk, List.foldl_append]; rfl
theorem bfOne_keep {q : Nat} {S : BfS} {m : Mv} (h : ¬ (m.f = (q : Int) ∧ m.t ≠ 0 ∧ bNone S.B m.t.toNat = true)) : bfOne q S m = S := if_neg h
theorem bfOne_put {q t : Nat} {S : BfS} {m : Mv} (h1 : m.f = (q : Int)) (h2 : m.t = (t : Int)) (h3 : t ≠ 0) (h4 : bNone S.B t = true) : bfOne q S m = ⟨S.B.set t (some m), S.Q ++ [t]⟩ := by
 have e : m.t.toNat = t := by omega
 unfold bfOne; rw [e, if_pos ⟨h1, by omega, h4⟩]
theorem BfI.has {MV : List Mv} {n : Nat} {S : BfS} (h : BfI MV n S) {j : Nat} (hj : j < n) (hb : j = 0 ∨ bNone S.B j = false) : ∃ a, S.Q[a]? = some j ∧ a < n := by
 have hm : j ∈ S.Q := by
  rcases hb with rfl | hb
  · exact List.mem_of_getElem? h.q0
  · have hl : j < S.B.length := by rw [h.len]; exact hj
    cases e : S.B[j] with
    | none =>
     have := (bNone_iff S.B j).2 (by rw [List.getElem?_eq_getElem hl, e]);rw [this] at hb; cases hb
    | some m => exact (h.met j m (by rw [List.getElem?_eq_getElem hl, e])).1
 obtain ⟨a, ha, e⟩ := List.getElem_of_mem hm;exact ⟨a, by rw [List.getElem?_eq_getElem ha, e], by have := h.room; omega⟩
theorem BfI.back {MV : List Mv} {n : Nat} {S : BfS} (h : BfI MV n S) {a j : Nat} (ha : S.Q[a]? = some j) (hn : a < n) (h0 : j ≠ 0) : ∃ (m : Mv) (b f : Nat), S.B[j]? = some (some m) ∧ m ∈ MV ∧ m.f = (f : Int) ∧ b < a ∧ S.Q[b]? = some f ∧ bfBack S.B (n + 1) j = m.s :: bfBack S.B (n + 1) f := by
 obtain ⟨m, b, f, h1, h2, h3, h4, h5, h6⟩ := h.by_ a j ha (by omega);refine ⟨m, b, f, h1, h2, h4, h5, h6, ?_⟩;rw [bfBack, if_neg h0, h1];simp only;rw [show m.f.toNat = f by omega, back_fuel h b f h6 n (n + 1) (by omega) (by omega)]
theorem back_zero (B : List (Option Mv)) (f : Nat) : bfBack B (f + 1) 0 = [] := by rw [bfBack, if_pos rfl]
def ByR (MV : List Mv) (Y : List Int) (B : List (Option Mv)) : Prop :=
 Y.length = B.length ∧ ∀ j, j < B.length → (bNone B j = true ∧ Y[j]? = some (-1)) ∨ (bNone B j = false ∧ ∃ (m : Mv) (k : Nat), B[j]? = some (some m) ∧ Y[j]? = some (k : Int) ∧ MV[k]? = some m)
theorem ByR.start (MV : List Mv) (n : Nat) : ByR MV (List.replicate n (-1)) (bfStart n).B := by
 refine ⟨by simp [bfStart], fun j hj => .inl ?_⟩;simp [bfStart] at hj;refine ⟨(bNone_iff _ _).2 ?_, ?_⟩
 · unfold bfStart; simp only; rw [List.getElem?_replicate, if_pos hj]
 · rw [List.getElem?_replicate, if_pos hj]
theorem ByR.set {MV : List Mv} {Y : List Int} {B : List (Option Mv)} (h : ByR MV Y B) {t k : Nat} {m : Mv} (hk : MV[k]? = some m) : ByR MV (Y.set t (k : Int)) (B.set t (some m)) := by
 obtain ⟨h1, h2⟩ := h;refine ⟨by simp [h1], fun j hj => ?_⟩;rw [List.length_set] at hj;by_cases e : t = j
 · subst e;refine .inr ⟨?_, m, k, ?_, ?_, hk⟩
   · cases hb : bNone (B.set t (some m)) t with
     | false => rfl
     | true => have := (bNone_iff _ _).1 hb; rw [List.getElem?_set_self hj] at this; cases this
   · rw [List.getElem?_set_self hj]
   · rw [List.getElem?_set_self (by omega)]
 · have e1 : (B.set t (some m))[j]? = B[j]? := List.getElem?_set_ne e;have e2 : (Y.set t (k : Int))[j]? = Y[j]? := List.getElem?_set_ne e;have e3 : bNone (B.set t (some m)) j = bNone B j := by unfold bNone; rw [e1]
   rw [e1, e2, e3]; exact h2 j hj
theorem ByR.no {MV : List Mv} {Y : List Int} {B : List (Option Mv)} (h : ByR MV Y B) {t : Nat} (ht : t < B.length) (hb : bNone B t = true) : ∃ hl : t < Y.length, Y[t] = -1 := by
 refine ⟨by rw [h.1]; exact ht, ?_⟩;rcases h.2 t ht with ⟨_, h2⟩ | ⟨h1, _⟩
 · exact (List.getElem?_eq_some_iff.1 h2).2
 · rw [h1] at hb; cases hb
theorem ByR.yes {MV : List Mv} {Y : List Int} {B : List (Option Mv)} (h : ByR MV Y B) {t : Nat} (ht : t < B.length) (hb : bNone B t = false) : ∃ (hl : t < Y.length) (k : Nat) (m : Mv), Y[t] = (k : Int) ∧ B[t]? = some (some m) ∧ MV[k]? = some m := by
 refine ⟨by rw [h.1]; exact ht, ?_⟩;rcases h.2 t ht with ⟨h1, _⟩ | ⟨_, m, k, h2, h3, h4⟩
 · rw [h1] at hb; cases hb
 · exact ⟨k, m, (List.getElem?_eq_some_iff.1 h3).2, h2, h4⟩
structure RS (MV : List Mv) (w0 : World) (U gy n cy : Nat) (S : BfS) (qv : Value) (wr : World) : Prop where
 yb : ∃ Y, NS w0 wr (.slice (some ⟨gy, 0, none⟩) n cy) Y ∧ ByR MV Y S.B
 que : QR U wr qv (qI S.Q)
 us : U ≤ wr.heap.size
section
variable {MV : List Mv} {w0 wr w' w7 : World} {U gy n cy : Nat} {S : BfS} {qv v7 : Value}
theorem RS.below (h : RS MV w0 U gy n cy S qv wr) (hb : Below wr.heap.size wr w') : RS MV w0 U gy n cy S qv w' := by
 obtain ⟨⟨Y, h1, h2⟩, h3, h4⟩ := h;exact ⟨⟨Y, h1.below hb, h2⟩, qr_below h3 hb, by have := hb.size; omega⟩
theorem RS.bel (h : RS MV w0 U gy n cy S qv wr) : Below w0.heap.size w0 wr := by
 obtain ⟨⟨Y, h1, _⟩, _, _⟩ := h;exact h1.2
theorem RS.apart (h : RS MV w0 U gy n cy S qv wr) (hg : gy < U) : qv.ownBlock = none ∨ qv.ownBlock ≠ some gy := by
 cases e : qv.ownBlock with
 | none => exact .inl rfl
 | some g => exact .inr fun e9 => by have := (h.que.lt g e).1; cases e9; omega
theorem RS.put (h : RS MV w0 U gy n cy S qv wr) (hg : gy < U) (t : Nat) (k : Int) : QR U (wr.setCell ⟨gy, t, none⟩ (.int .i64 k)) qv (qI S.Q) :=
 h.que.kept (Lib.grownBy_setB (grown_refl wr (some gy)) t _) (h.apart hg)
theorem RS.fin (h : RS MV w0 U gy n cy S qv wr) (hg : gy < U) (hgy : w0.heap.size ≤ gy) {t k : Nat} {m : Mv} (hk : MV[k]? = some m) {o : Obj}
 (ho : w7.ownsRow U 3 1 v7 ((qI S.Q).length + 1) ((qI S.Q).map (Value.int .i64) ++ [.int .i64 (t : Int)])) (hw : ((wr.setCell ⟨gy, t, none⟩ (.int .i64 (k : Int))).alloc o).grownBy w7 qv.ownBlock) : RS MV w0 U gy n cy ⟨S.B.set t (some m), S.Q ++ [t]⟩ v7 w7 := by
 have hap := h.apart hg;have hlt := h.que;have hus := h.us;obtain ⟨⟨Y, h1, h2⟩, h3, h4⟩ := h;have h5 := (h1.set hgy t (k : Int)).below (below_alloc _ o);have h6 : NS w0 w7 (.slice (some ⟨gy, 0, none⟩) n cy) (Y.set t (k : Int)) := h5.kept hw (.inr fun e => by
  rcases hap with e1 | e1
  · rw [e1] at e; cases e
  · exact e1 e.symm) (fun g hgk => by have := (hlt.lt g hgk).1; omega)
 refine ⟨⟨_, h6, h2.set hk⟩, ?_, ?_⟩
 · unfold QR; simp only; rw [qI_app, List.length_append, List.map_append]; exact ho
 · have := hw.size; simp at this; omega
end
theorem formed22_any (As : Option Addr) (n cs : Nat) (Av : Option Addr) (nm cv : Nat) (fl : Bool) (MV : List Mv) (w : World) (h1 : 0 < n) (h2 : n ≤ 2000) (h3 : nm ≤ 20000) (hm : MV.length = nm) (hr : Rd mvC 3 w Av MV) (ho : mvOk MV n) :
 Calls Tryz.prog 145 #[.agg #[.slice As n cs, .slice Av nm cv, .bool fl]] w fun e w' => e = .returned (.bool true) ∧ Below w.heap.size w w' := by
 have HB0 := hid (below_alloc w (.cells #[.slice As n cs, .slice Av nm cv, .bool fl] 41));have hsb := heap_alloc_new w (.cells #[.slice As n cs, .slice Av nm cv, .bool fl] 41);have HSb := hid (show SpB _ w.heap.size (.slice As n cs) (.slice Av nm cv) fl from hsb);have HR0 := hid (hr.below HB0.out);have HMl := hid hm;have HMo := hid ho;have q1 : decide ((n : Int) < 1) = false := by simp; omega
 have q2 : decide ((n : Int) > 2000) = false := by simp; omega
 have q3 : decide ((nm : Int) > 20000) = false := by simp; omega
 clear hr hm ho hsb;go_enter Tryz.func145, Tryz.ntmps145;go_wp2_with fail;generalize w.alloc _ = wa at *;go_loopg [4] (nm) (fun g i wr => ∃ k : Nat, k + g = nm ∧ i = .int .i64 (k : Int) ∧ Below wa.heap.size wa wr);case atStart => exact ⟨0, by omega, rfl, Below.refl _ _⟩
 case round =>
  obtain ⟨k, hk, rfl, hB⟩ := hrel;have HK := hid hk;have HB := hid hB;have HRr := hid (HR0.out.below hB);have HSr := hid (HSb.out.below hB);obtain ⟨s0, s1, s2⟩ := HSr.out.cells;have hle : k ≤ nm := by omega
  clear hk hB;by_cases hlt : k < nm
  · have hlt' : k < MV.length := by rw [HMl.out]; exact hlt
    obtain ⟨am, rfl, hpa, m0, m1, m2⟩ := mv_cells HRr.out hlt';obtain ⟨r1, r2, r3, r4⟩ := HMo.out _ (List.getElem_mem hlt');generalize MV[k] = x at *;obtain ⟨xf, xt, xs⟩ := x;simp only at m0 m1 m2 r1 r2 r3 r4;have ha := below_alloc wr (.cells #[.int .i64 xf, .int .i64 xt, .int .i64 xs] 113);have HB5 := hid (below_then HB.out ha);have y1 : decide (xf < 0) = false := by simp; omega
    have y2 : decide (xf ≥ (n : Int)) = false := by simp; omega
    have y3 : decide (xt < 0) = false := by simp; omega
    have y4 : decide (xt ≥ (n : Int)) = false := by simp; omega
    clear hlt' ha;go_wp2_with fail;go_roundg (gk - 1);case measure => have := HK.out; omega
    case rel => exact ⟨k + 1, by have := HK.out; omega, by go_num, HB5.out⟩
  · go_wp2_with fail;go_ret;exact ⟨rfl, HB0.out.trans (HB.out.mono HB0.out.size)⟩
end
section
open Go.RowKit

def gidx {α : Type} (p : α → Bool) (L : List α) : Int := if L.findIdx p = L.length then -1 else ((L.findIdx p : Nat) : Int)
theorem gidx_at {α : Type} {p : α → Bool} {L : List α} {k : Nat} (h : k < L.length) (hp : p L[k] = true) (hno : ∀ s ∈ L.take k, p s = false) : gidx p L = (k : Int) := by
 have e : L.findIdx p = k := by
  rw [List.findIdx_eq h];refine ⟨hp, fun j hj => ?_⟩;have hm : L[j] ∈ L.take k := by
   rw [List.mem_take_iff_getElem];exact ⟨j, by omega, rfl⟩
  simp [hno _ hm]
 unfold gidx;rw [e, if_neg (by omega)]
theorem gidx_no {α : Type} {p : α → Bool} {L : List α} (h : ∀ s ∈ L, p s = false) : gidx p L = -1 := by
 unfold gidx;rw [if_pos (List.findIdx_eq_length_of_false h)]
theorem gidx_yes {α : Type} {p : α → Bool} {L : List α} {x : α} (hx : x ∈ L) (hp : p x = true) : ∃ (k : Nat) (y : α), gidx p L = (k : Int) ∧ L[k]? = some y ∧ p y = true := by
 have hlt : L.findIdx p < L.length := List.findIdx_lt_length_of_exists ⟨x, hx, hp⟩;refine ⟨L.findIdx p, L[L.findIdx p], ?_, List.getElem?_eq_getElem hlt, List.findIdx_getElem (w := hlt)⟩;unfold gidx;rw [if_neg (by omega)]
def KB (w : World) (kb : Nat) (k : Int) : Prop := w.heap[kb]? = some (.cells #[.int .i64 k] 3 (0, 0))
theorem KB.below {w w' : World} {kb : Nat} {k : Int} (h : KB w kb k) (hb : Below w.heap.size w w') : KB w' kb k := by
 unfold KB; rw [hb.block kb (Array.getElem?_eq_some_iff.1 h).1]; exact h
def treB (k : Int) (x : Mv) : Bool := decide (x.t = k) && decide (x.f < k)
theorem wpr1_any (f t s k : Int) (kb : Nat) (w : World) (h : KB w kb k) :
 Calls Tryz.prog 122 #[.agg #[.int .i64 f, .int .i64 t, .int .i64 s], .pointer (some ⟨kb, 0, none⟩)] w fun e w' => e = .returned (.bool (treB k ⟨f, t, s⟩)) ∧ Below w.heap.size w w' := by
 have h' : (w.alloc (.cells #[.int .i64 f, .int .i64 t, .int .i64 s] 113)).heap[kb]? = some (.cells #[.int .i64 k] 3 (0, 0)) := h.below (below_alloc w _);have c0 : (w.alloc (.cells #[.int .i64 f, .int .i64 t, .int .i64 s] 113)).cell? ⟨kb, 0, none⟩ = some (.int .i64 k) := by simp only [World.cell?, h']; rfl
 clear h h';by_cases h1 : t = k
 · have q1 : (t == k) = true := by rw [beq_iff_eq]; exact h1
   by_cases h2 : f < k
   · have q2 : decide (f < k) = true := decide_eq_true h2;have HV := hid (show treB k ⟨f, t, s⟩ = true by unfold treB; simp [h1, h2]);generalize treB k ⟨f, t, s⟩ = R at *;clear h1 h2;go_enter Tryz.func122, Tryz.ntmps122;go_wp2_with fail;go_ret;exact ⟨ret_bool HV.out.symm, below_alloc _ _⟩
   · have q2 : decide (f < k) = false := decide_eq_false h2;have HV := hid (show treB k ⟨f, t, s⟩ = false by unfold treB; simp [h2]);generalize treB k ⟨f, t, s⟩ = R at *;clear h1 h2;go_enter Tryz.func122, Tryz.ntmps122;go_wp2_with fail;go_ret;exact ⟨ret_bool HV.out.symm, below_alloc _ _⟩
 · have q1 : (t == k) = false := by rw [beq_eq_false_iff_ne]; exact h1
   have HV := hid (show treB k ⟨f, t, s⟩ = false by unfold treB; simp [h1]);generalize treB k ⟨f, t, s⟩ = R at *;clear h1;go_enter Tryz.func122, Tryz.ntmps122;go_wp2_with fail;go_ret;exact ⟨ret_bool HV.out.symm, below_alloc _ _⟩
theorem mindex_pr (A : Option Addr) (n cap : Nat) (L : List Mv) (w : World) (h : Rd mvC 3 w A L) (hn : L.length = n) (hn4 : n ≤ 9223372036854775806) (kb : Nat) (k9 : Int) (hS : KB w kb k9) :
 Calls Tryz.prog 121 #[.slice A n cap, .func (.func 122) #[] #[.pointer (some ⟨kb, 0, none⟩)]] w fun e w' => e = .returned (.int .i64 (gidx (treB k9) L)) ∧ Below w.heap.size w w' := by
 have H0 := hid h; clear h;have HN := hid hn; clear hn;have HSt := hid hS; clear hS;go_enter Tryz.func121, Tryz.ntmps121;go_wp2_with fail;go_loopg [8] (n) (fun g i wr => ∃ k : Nat, k + g = n ∧ i = .int .i64 k ∧ (∀ s ∈ L.take k, (treB k9) s = false) ∧ Below w.heap.size w wr);case atStart => exact ⟨0, by omega, rfl, by simp, Below.refl _ _⟩
 case round =>
  obtain ⟨k, hk, rfl, hno, hB⟩ := hrel;have HK := hid hk;have HNo := hid hno;have HB := hid hB;have HT := hid (H0.out.below hB);have hle : k ≤ n := by omega
  clear hk hno hB;by_cases hlt : k < n
  · have hlt' : k < L.length := by rw [HN.out]; exact hlt
    obtain ⟨am, rfl, hpa, m0, m1, m2⟩ := mv_cells HT.out hlt';have HTk := hid (List.take_succ_eq_append_getElem hlt');have HAt := hid (gidx_at (p := (treB k9)) hlt');generalize L[k] = X at *;obtain ⟨xf, xt, xs⟩ := X;simp only at m0 m1 m2;have HX := hid (wpr1_any xf xt xs k9 kb wr (HSt.out.below HB.out));clear hlt';cases hv : (treB k9) ⟨xf, xt, xs⟩ with
    | true =>
     rw [hv] at HX;have HV := hid (HAt.out hv HNo.out); clear hv;go_wp2_with fail;((with_reducible refine HX.out.mono ?_); rintro e w1 ⟨rfl, hb1⟩)
     have HB1 := hid (below_then HB.out hb1);go_wp2_with fail;go_ret;exact ⟨ret_int HV.out.symm, HB1.out⟩
    | false =>
     rw [hv] at HX;have HV := hid hv; clear hv HAt;go_wp2_with fail;((with_reducible refine HX.out.mono ?_); rintro e w1 ⟨rfl, hb1⟩)
     have HB1 := hid (below_then HB.out hb1);clear hb1;go_wp2_with fail;go_roundg (gk - 1);case measure => have := HK.out; omega
     case rel => exact ⟨k + 1, by have := HK.out; omega, by go_num, by
      rw [HTk.out]; intro s hs;rcases List.mem_append.1 hs with h1 | h1
      · exact HNo.out s h1
      · simp at h1; subst h1; exact HV.out, HB1.out⟩
  · have HV := hid (show gidx (treB k9) L = -1 from gidx_no (by have := HNo.out; rwa [List.take_of_length_le (by rw [HN.out]; omega)] at this));go_wp2_with fail;go_ret;exact ⟨ret_int HV.out.symm, HB.out⟩
end
end Go.Proofs.YtkhmngljpfibcaaGreatDoor
