/- after of sound (what a state leads to): what a call returns. IndexFunc on moves with the closure of sound's proof: what a call returns. -/
import Derived.Test.YtpiihmbeedlpkaaGreatDoorPUu
import Derived.Test.YtpiihmbeedlpkaaGreatDoorPAd
import Derived.Test.YtpiihmbeedlpkaaGreatDoorPUd
import Derived.Test.YtpiihmbeedlpkaaGreatDoorPQo
namespace Go.Proofs.YtpiihmbeedlpkaaGreatDoor
set_option maxRecDepth 100000
set_option maxHeartbeats 12800000
open Go.Lib (hid)
section
open Go.RowKit

structure AfS (MV : List Mv) (n start sb : Nat) (w1 : World) (B : List Bool) (Q : List Int) (i : Nat) (part : List Mv) (qv : Value) (wr : World) : Prop where
 af : AfI MV n start B Q i part
 bl : BL wr sb B
 que : QR w1.heap.size wr qv Q
 bel : Below w1.heap.size w1 wr
 il : i ≤ Q.length
theorem qr_below {U : Nat} {w w' : World} {v : Value} {Q : List Int} (h : QR U w v Q) (hb : Below w.heap.size w w') : QR U w' v Q := own_stays h hb
theorem AfS.below {MV : List Mv} {n start sb : Nat} {w1 : World} {B : List Bool} {Q : List Int} {i : Nat} {part : List Mv} {qv : Value} {wr w' : World} (h : AfS MV n start sb w1 B Q i part qv wr) (hb : Below wr.heap.size wr w') : AfS MV n start sb w1 B Q i part qv w' :=
 ⟨h.af, h.bl.below hb, qr_below h.que hb, below_then h.bel hb, h.il⟩
theorem wafter_any (w : World) (b : Nat) (N : Nt) (LL : List (List Int)) (MV : List Mv) (fl : Bool) (A : Option Addr) (n c : Nat) (As : Option Addr) (cs : Nat) (Av : Option Addr) (cv : Nat) (Af : Option Addr) (cf : Nat) (Ag : Option Addr) (cg : Nat) (from_ : Nat) (h : WdI w b N LL MV fl A n c As cs Av cv Af cf Ag cg) (hmo : mvOk MV LL.length) (hf : from_ < LL.length) (hl2 : LL.length ≤ 1000000) (hv2 : MV.length ≤ 20000) :
 Calls Tryz.prog 21 #[.pointer (some ⟨b, 0, none⟩), .int .i64 (from_ : Int)] w fun e w' => ∃ v B Q i, e = .returned v ∧ QR w.heap.size w' v Q ∧ Below w.heap.size w w' ∧ AfI MV LL.length from_ B Q i [] ∧ Q.length ≤ i := by
 have HW := hid h;have HMo := hid hmo;obtain ⟨b0, b1, b2, b3, b4, b5, b6, b7, b8⟩ := h.cells;obtain ⟨n9, hn9⟩ : ∃ n9, n9 = LL.length := ⟨_, rfl⟩;have HN9 := hid hn9;rw [← hn9] at b4 hf hl2;have hmk : ∀ w : World, (Instr.makeSlice 97 (.int .i64 (n9 : Int)) (.int .i64 (n9 : Int))).run Tryz.prog w = .ok (.slice (some ⟨w.heap.size, 0, none⟩) n9 n9) (w.alloc (.cells (madeCells #[.bool false] n9) 4)) := fun w => run_make_row' 97 4 (.bool false) 1 Tryz.underlying97 (by kernel_rfl) rfl .i64 .i64 n9 (by omega) (by omega) w
 obtain ⟨i0, hi, hz0, hz1, hz2⟩ := info_parts intInfo;have HI := hid (And.intro hi (And.intro hz0 (And.intro hz1 hz2)));clear hi hz0 hz1 hz2 h hmo hn9;have hfi : (from_ : Int) < (n9 : Int) := by omega
 have hc0 : (madeCells #[Value.bool false] n9)[from_]? = some (.bool false) := by rw [← Array.getElem?_toList, toList_madeCells_one]; simp [hf]
 go_enter Tryz.func21, Tryz.ntmps21;go_wp2_with fail;clear hmk b0 b1 b2 b3 b4 b5 b6 b7 b8;have HX1 := heap_alloc_new w (.cells ((madeCells #[.bool false] n9).setIfInBounds from_ (.bool true)) 4);have hal := below_alloc (w.alloc (.cells ((madeCells #[.bool false] n9).setIfInBounds from_ (.bool true)) 4)) (.cells #[.int .i64 (from_ : Int)] 3);have HBl0 : BL ((w.alloc (.cells ((madeCells #[.bool false] n9).setIfInBounds from_ (.bool true)) 4)).alloc (.cells #[.int .i64 (from_ : Int)] 3)) w.heap.size ((List.replicate n9 false).set from_ true) := by
  unfold BL;rw [hal.block _ (by simp), HX1]
  congr 2
  apply Array.ext';rw [Array.toList_setIfInBounds, toList_madeCells_one, List.map_set, List.map_replicate]
 have HQ0 : QR w.heap.size ((w.alloc (.cells ((madeCells #[.bool false] n9).setIfInBounds from_ (.bool true)) 4)).alloc (.cells #[.int .i64 (from_ : Int)] 3)) (.slice (some ⟨w.heap.size + 1, 0, none⟩) 1 1) [(from_ : Int)] := by
  have := World.ownsRow_lit (base := w.heap.size) (e := 3) (size := 1) (w.alloc (.cells ((madeCells #[.bool false] n9).setIfInBounds from_ (.bool true)) 4)) #[.int .i64 (from_ : Int)] 1 (by simp) (by unfold maxLen; omega) rfl;rw [World.size_alloc] at this;exact this
 have HAf0 := hid (AfS.mk (AfI.start MV n9 from_ hf) HBl0 HQ0 (below_then (below_alloc w _) hal) (Nat.zero_le _));clear HX1 hal HBl0 HQ0 hc0;generalize (w.alloc _).alloc _ = w1 at *;rw [HN9.out] at HAf0;generalize hsb : w.heap.size = sb at *;go_loopg [6, 7] (n9) (fun g qv iv wr => ∃ (i : Nat) (B : List Bool) (Q : List Int), i + g = n9 ∧ iv = .int .i64 (i : Int) ∧ AfS MV LL.length from_ sb w B Q i [] qv wr);case atStart => exact ⟨0, _, _, by omega, rfl, HAf0.out⟩
 case round =>
  clear HAf0;obtain ⟨i, B, Q, hig, rfl, hA⟩ := hrel;obtain ⟨Aq, cq, rfl⟩ := hA.que.slice;have HA := hid hA;have HK := hid hig;have hQn : Q.length ≤ n9 := by rw [HN9.out]; exact hA.af.room
  have hil := hA.il;have HWr := hid (HW.out.below hA.bel);clear hig;by_cases hlt : i < Q.length
  · obtain ⟨c9, hc⟩ : ∃ c9, Q[i]? = some c9 := ⟨_, List.getElem?_eq_getElem hlt⟩;obtain ⟨gq, cq', he, hgq, hgql, r0⟩ := hA.que.at_ hc;cases he;obtain ⟨hr0, hr1⟩ := hA.af.rng c9 (List.mem_of_getElem? hc);obtain ⟨cn, rfl⟩ := Int.eq_ofNat_of_zero_le hr0;have hcn : cn < LL.length := by omega
    have hsO : cn < (outL MV LL.length).length := by rw [outL_len]; exact hcn
    obtain ⟨ag, rfl, hga, Bm, nr, cr, g9, hrd, hrl⟩ := HW.out.nx cn hsO;have g0 := cell_stays hA.bel g9;have hrow : (outL MV LL.length)[cn]? = some (outL MV LL.length)[cn] := List.getElem?_eq_getElem hsO;have hshort := outL_short MV LL.length cn hrow;have HMem := hid (outL_mem MV LL.length cn hrow);generalize (outL MV LL.length)[cn]'_ = OL at *;obtain ⟨b0, b1, b2, b3, b4, b5, b6, b7, b8⟩ := HWr.out.cells;rw [← HN9.out] at b4 b8;have HRd := hid hrd;have HRl := hid hrl;have HC := hid hc;have hnr : nr ≤ 20000 := by omega
    have hii : (i : Int) < (Q.length : Int) := by omega
    have hci : (cn : Int) < (n9 : Int) := by rw [HN9.out]; omega
    clear hA hrd hrl hrow hc hr0 hr1;go_wp2_with fail;go_quiet (fail);have hbq := below_drewN wr nq;have HA1 := hid (HA.out.below hbq);clear HA HWr b0 b1 b2 b3 b4 b5 b6 b7 b8 r0 g0 g9 hbq;generalize wr.drewN nq = w2 at *;go_wp2_with fail;obtain ⟨go, rfl⟩ : ∃ go, go = gk := ⟨_, rfl⟩;obtain ⟨wo, rfl⟩ : ∃ wo : World, wo = w2 := ⟨_, rfl⟩;go_loopg [39, 6] (nr) (fun g jv qv wr => ∃ (j : Nat) (B : List Bool) (Q : List Int), j + g = nr ∧ jv = .int .i64 (j : Int) ∧ Q[i]? = some (cn : Int) ∧ AfS MV LL.length from_ sb w B Q i (OL.take j) qv wr);case atStart => exact ⟨0, B, Q, by omega, rfl, HC.out, by rw [List.take_zero]; exact HA1.out⟩
    case round =>
     clear HA1 HC hgq hgql hii hQn hil hlt;obtain ⟨j, B2, Q2, hjg, rfl, hc2, hA2⟩ := hrel;obtain ⟨Aq2, cq2, rfl⟩ := hA2.que.slice;have HA := hid hA2;have HJ := hid hjg;have HC := hid hc2;have hjl : j ≤ nr := by omega
     have hQ2 : Q2.length ≤ 1000000 := by have := hA2.af.room; rw [← HN9.out] at this; omega
     clear hjg;by_cases hjt : j < nr
     · have hjt' : j < OL.length := by rw [HRl.out]; exact hjt
       obtain ⟨hxm, hxf⟩ := (HMem.out OL[j]).1 (List.getElem_mem hjt');obtain ⟨_, _, r3, r4⟩ := HMo.out _ hxm;obtain ⟨t, htt⟩ := Int.eq_ofNat_of_zero_le r3;have htn : t < LL.length := by omega
       have hBt : t < B2.length := by rw [hA2.af.len]; exact htn
       have HTk := hid (List.take_succ_eq_append_getElem hjt');have HOne := hid (hA2.af.one hc2 hxm hxf HMo.out);obtain ⟨am, rfl, hpa, m0, m1, m2⟩ := mv_cells (HRd.out.below hA2.bel) hjt';have hsbl := hA2.bl.lt;have y0 := hA2.bl.cell hBt;have hbt : B2.getD t false = B2[t] := by simp [hBt]
       have hti : (t : Int) < (n9 : Int) := by rw [HN9.out]; omega
       have hil2 := (List.getElem?_eq_some_iff.1 hc2).1;rw [show OL[j].t.toNat = t by omega, hbt] at HOne;rw [htt] at m1;have HXt := hid htt;generalize OL[j] = x at *;obtain ⟨xf, xt, xs⟩ := x;simp only at m0 m1 m2 HXt HOne;clear hxm hxf r3 r4 htt hjt';cases hb : B2[t] with
       | true =>
        rw [hb] at HOne y0;simp only [if_true] at HOne;have y1 := cell_stays (below_alloc wr (.cells #[.int .i64 xf, .int .i64 (t : Int), .int .i64 xs] 71)) y0;have HA5 := hid (AfS.mk HOne.out (hA2.bl.below (below_alloc wr (.cells #[.int .i64 xf, .int .i64 (t : Int), .int .i64 xs] 71))) (qr_below hA2.que (below_alloc wr (.cells #[.int .i64 xf, .int .i64 (t : Int), .int .i64 xs] 71))) (below_then hA2.bel (below_alloc wr (.cells #[.int .i64 xf, .int .i64 (t : Int), .int .i64 xs] 71))) hA2.il);clear hA2 HA hb;go_wp2_with fail;go_roundg (gk - 1);case measure => have := HJ.out; omega
        case rel => exact ⟨j + 1, B2, Q2, by have := HJ.out; omega, by go_num, HC.out, by rw [HTk.out]; exact HA5.out⟩
       | false =>
        rw [hb] at HOne y0;rw [if_neg (by decide), if_neg (by decide), HXt.out] at HOne;have ha := below_alloc wr (.cells #[.int .i64 xf, .int .i64 (t : Int), .int .i64 xs] 71);have y1 := cell_stays ha y0;have y2 := (hA2.bl.below ha).soft t;have y3 := hA2.bl.soft t;have hset : wr.grownBy (wr.setCell ⟨sb, t, none⟩ (.bool true)) (some sb) := Lib.grownBy_setB (grown_refl wr (some sb)) t _;have ha2 := below_alloc (wr.setCell ⟨sb, t, none⟩ (.bool true)) (.cells #[.int .i64 xf, .int .i64 (t : Int), .int .i64 xs] 71);have HQs := hid (qr_below (show QR w.heap.size (wr.setCell ⟨sb, t, none⟩ (.bool true)) (.slice Aq2 Q2.length cq2) Q2 from hA2.que.kept hset (own_other hA2.que hA2.bl (by decide))) ha2);have HBs := hid ((hA2.bl.set t true).below ha2);have HBe := hid (((hA2.bel.setCell (p := ⟨sb, t, none⟩) (by show w.heap.size ≤ sb; omega) (.bool true))).alloc (by have := hA2.bel.size; simp; omega) (.cells #[.int .i64 xf, .int .i64 (t : Int), .int .i64 xs] 71));have hsz2 : (wr.setCell ⟨sb, t, none⟩ (.bool true)).heap.size = wr.heap.size := by simp
        have hx9 := heap_alloc_new (wr.setCell ⟨sb, t, none⟩ (.bool true)) (.cells #[.int .i64 xf, .int .i64 (t : Int), .int .i64 xs] 71);rw [hsz2] at hx9;obtain ⟨x0, x1, x2⟩ := mvb_cells9 hx9;clear hA2 HA hb hset ha ha2;go_wp2_with (at_builtin; refine wpList_append_own _ rfl _ _ 34 rfl w.heap.size 3 i0 (.int .i64 0) 1 8 Tryz.underlying34 HI.out.1 HI.out.2.1 HI.out.2.2.1 HI.out.2.2.2 rfl (by decide) (.slice Aq2 Q2.length cq2) _ _ rfl (HQs.out.alloc _) ⟨wr.heap.size + 1, 0, none⟩ 1 1 [.int .i64 (t : Int)] rfl rfl ?c1 ?c2 ?c3 ?c4 ?c5 ?_);case c2 => rfl
        case c3 => unfold maxLen; omega
        case c4 => omega
        case c5 => have := HBe.out.size; simp at this ⊢; omega
        intro v7 w7 hown7 hgrow7 _;have HQ7 := hid (show QR w.heap.size w7 v7 (Q2 ++ [(t : Int)]) from by rw [hsb]; unfold QR; rw [List.length_append, List.map_append]; exact hown7);have hnb := row_block (HQs.out.alloc (.cells #[.int .i64 (t : Int)] 3)) (HBs.out.below (below_alloc _ _)) (by decide);have HB7 := hid (show BL w7 sb (B2.set t true) from by unfold BL; rw [hgrow7.block sb (HBs.out.below (below_alloc _ _)).lt hnb]; exact HBs.out.below (below_alloc _ _));have HE7 := hid ((HBe.out.alloc HBe.out.size (.cells #[.int .i64 (t : Int)] 3)).grown hgrow7 (by have := HBe.out.size; simp at this ⊢; omega) (fun k hk => (HQs.out.lt k hk).1));have HA7 := hid (AfS.mk HOne.out HB7.out HQ7.out HE7.out (by rw [List.length_append]; omega));have HC7 := hid (show (Q2 ++ [(t : Int)])[i]? = some (cn : Int) by rw [List.getElem?_append_left hil2]; exact HC.out);clear hown7 hgrow7 hnb HQs HBs HBe hx9 x0 x1 x2 y0 y1 y2 y3 hsz2 HQ7 HB7 HE7;go_wp2_with fail;go_roundg (gk - 1);case measure => have := HJ.out; omega
        case rel => exact ⟨j + 1, _, _, by have := HJ.out; omega, by go_num, HC7.out, by rw [HTk.out, HXt.out]; exact HA7.out⟩
     · have HA7 := hid (show AfS MV LL.length from_ sb w B2 Q2 (i + 1) [] (.slice Aq2 Q2.length cq2) wr from ⟨hA2.af.next hc2 (fun x hx hf => by rw [List.take_of_length_le (by rw [HRl.out]; omega)]; exact (HMem.out x).2 ⟨hx, hf⟩), hA2.bl, hA2.que, hA2.bel, by have := (List.getElem?_eq_some_iff.1 hc2).1; omega⟩);have hin : i < n9 := by have h1 := (List.getElem?_eq_some_iff.1 hc2).1; have h2 := hA2.af.room; rw [← HN9.out] at h2; omega
       clear hA2 HA hc2;go_wp2_with fail;go_roundg (go - 1);case measure => have := HK.out; omega
       case rel => exact ⟨i + 1, B2, Q2, by have := HK.out; omega, by go_num, HA7.out⟩
  · have hE := hA.af;go_wp2_with fail;go_ret;exact ⟨_, B, Q, i, rfl, by rw [← hsb] at *; exact HA.out.que, HA.out.bel, HA.out.af, by omega⟩
end
section
open Go.RowKit

def gidx {α : Type} (p : α → Bool) (L : List α) : Int := if L.findIdx p = L.length then -1 else ((L.findIdx p : Nat) : Int)
theorem gidx_at {α : Type} {p : α → Bool} {L : List α} {k : Nat} (h : k < L.length) (hp : p L[k] = true) (hno : ∀ s ∈ L.take k, p s = false) : gidx p L = (k : Int) := by
 have e : L.findIdx p = k := by
  rw [List.findIdx_eq h];refine ⟨hp, fun j hj => ?_⟩;have hm : L[j] ∈ L.take k := by
   rw [List.mem_take_iff_getElem];exact ⟨j, by omega, rfl⟩
  simp [hno _ hm]
 unfold gidx;rw [e, if_neg (by omega)]
theorem gidx_no {α : Type} {p : α → Bool} {L : List α} (h : ∀ s ∈ L, p s = false) : gidx p L = -1 := by
 unfold gidx;rw [if_pos (List.findIdx_eq_length_of_false h)]
theorem gidx_yes {α : Type} {p : α → Bool} {L : List α} {x : α} (hx : x ∈ L) (hp : p x = true) : ∃ (k : Nat) (y : α), gidx p L = (k : Int) ∧ L[k]? = some y ∧ p y = true := by
 have hlt : L.findIdx p < L.length := List.findIdx_lt_length_of_exists ⟨x, hx, hp⟩;refine ⟨L.findIdx p, L[L.findIdx p], ?_, List.getElem?_eq_getElem hlt, List.findIdx_getElem (w := hlt)⟩;unfold gidx;rw [if_neg (by omega)]
def KB (w : World) (kb : Nat) (k : Int) : Prop := w.heap[kb]? = some (.cells #[.int .i64 k] 3 (0, 0))
theorem KB.below {w w' : World} {kb : Nat} {k : Int} (h : KB w kb k) (hb : Below w.heap.size w w') : KB w' kb k := by
 unfold KB; rw [hb.block kb (Array.getElem?_eq_some_iff.1 h).1]; exact h
def treB (k : Int) (x : Mv) : Bool := decide (x.t = k) && decide (x.f < k)
theorem wpr1_any (f t s k : Int) (kb : Nat) (w : World) (h : KB w kb k) :
 Calls Tryz.prog 47 #[.agg #[.int .i64 f, .int .i64 t, .int .i64 s], .pointer (some ⟨kb, 0, none⟩)] w fun e w' => e = .returned (.bool (treB k ⟨f, t, s⟩)) ∧ Below w.heap.size w w' := by
 have h' : (w.alloc (.cells #[.int .i64 f, .int .i64 t, .int .i64 s] 71)).heap[kb]? = some (.cells #[.int .i64 k] 3 (0, 0)) := h.below (below_alloc w _);have c0 : (w.alloc (.cells #[.int .i64 f, .int .i64 t, .int .i64 s] 71)).cell? ⟨kb, 0, none⟩ = some (.int .i64 k) := by simp only [World.cell?, h']; rfl
 clear h h';by_cases h1 : t = k
 · have q1 : (t == k) = true := by rw [beq_iff_eq]; exact h1
   by_cases h2 : f < k
   · have q2 : decide (f < k) = true := decide_eq_true h2;have HV := hid (show treB k ⟨f, t, s⟩ = true by unfold treB; simp [h1, h2]);generalize treB k ⟨f, t, s⟩ = R at *;clear h1 h2;go_enter Tryz.func47, Tryz.ntmps47;go_wp2_with fail;go_ret;exact ⟨ret_bool HV.out.symm, below_alloc _ _⟩
   · have q2 : decide (f < k) = false := decide_eq_false h2;have HV := hid (show treB k ⟨f, t, s⟩ = false by unfold treB; simp [h2]);generalize treB k ⟨f, t, s⟩ = R at *;clear h1 h2;go_enter Tryz.func47, Tryz.ntmps47;go_wp2_with fail;go_ret;exact ⟨ret_bool HV.out.symm, below_alloc _ _⟩
 · have q1 : (t == k) = false := by rw [beq_eq_false_iff_ne]; exact h1
   have HV := hid (show treB k ⟨f, t, s⟩ = false by unfold treB; simp [h1]);generalize treB k ⟨f, t, s⟩ = R at *;clear h1;go_enter Tryz.func47, Tryz.ntmps47;go_wp2_with fail;go_ret;exact ⟨ret_bool HV.out.symm, below_alloc _ _⟩
theorem mindex_pr (A : Option Addr) (n cap : Nat) (L : List Mv) (w : World) (h : Rd mvC 3 w A L) (hn : L.length = n) (hn4 : n ≤ 9223372036854775806) (kb : Nat) (k9 : Int) (hS : KB w kb k9) :
 Calls Tryz.prog 46 #[.slice A n cap, .func (.func 47) #[] #[.pointer (some ⟨kb, 0, none⟩)]] w fun e w' => e = .returned (.int .i64 (gidx (treB k9) L)) ∧ Below w.heap.size w w' := by
 have H0 := hid h; clear h;have HN := hid hn; clear hn;have HSt := hid hS; clear hS;go_enter Tryz.func46, Tryz.ntmps46;go_wp2_with fail;go_loopg [8] (n) (fun g i wr => ∃ k : Nat, k + g = n ∧ i = .int .i64 k ∧ (∀ s ∈ L.take k, (treB k9) s = false) ∧ Below w.heap.size w wr);case atStart => exact ⟨0, by omega, rfl, by simp, Below.refl _ _⟩
 case round =>
  obtain ⟨k, hk, rfl, hno, hB⟩ := hrel;have HK := hid hk;have HNo := hid hno;have HB := hid hB;have HT := hid (H0.out.below hB);have hle : k ≤ n := by omega
  clear hk hno hB;by_cases hlt : k < n
  · have hlt' : k < L.length := by rw [HN.out]; exact hlt
    obtain ⟨am, rfl, hpa, m0, m1, m2⟩ := mv_cells HT.out hlt';have HTk := hid (List.take_succ_eq_append_getElem hlt');have HAt := hid (gidx_at (p := (treB k9)) hlt');generalize L[k] = X at *;obtain ⟨xf, xt, xs⟩ := X;simp only at m0 m1 m2;have HX := hid (wpr1_any xf xt xs k9 kb wr (HSt.out.below HB.out));clear hlt';cases hv : (treB k9) ⟨xf, xt, xs⟩ with
    | true =>
     rw [hv] at HX;have HV := hid (HAt.out hv HNo.out); clear hv;go_wp2_with fail;((with_reducible refine HX.out.mono ?_); rintro e w1 ⟨rfl, hb1⟩)
     have HB1 := hid (below_then HB.out hb1);go_wp2_with fail;go_ret;exact ⟨ret_int HV.out.symm, HB1.out⟩
    | false =>
     rw [hv] at HX;have HV := hid hv; clear hv HAt;go_wp2_with fail;((with_reducible refine HX.out.mono ?_); rintro e w1 ⟨rfl, hb1⟩)
     have HB1 := hid (below_then HB.out hb1);clear hb1;go_wp2_with fail;go_roundg (gk - 1);case measure => have := HK.out; omega
     case rel => exact ⟨k + 1, by have := HK.out; omega, by go_num, by
      rw [HTk.out]; intro s hs;rcases List.mem_append.1 hs with h1 | h1
      · exact HNo.out s h1
      · simp at h1; subst h1; exact HV.out, HB1.out⟩
  · have HV := hid (show gidx (treB k9) L = -1 from gidx_no (by have := HNo.out; rwa [List.take_of_length_le (by rw [HN.out]; omega)] at this));go_wp2_with fail;go_ret;exact ⟨ret_int HV.out.symm, HB.out⟩
end
end Go.Proofs.YtpiihmbeedlpkaaGreatDoor
