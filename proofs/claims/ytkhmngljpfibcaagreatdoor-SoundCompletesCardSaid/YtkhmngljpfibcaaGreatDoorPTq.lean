/- Find and formed of space: what a call returns. A queue whose head moves on (queue = queue[1:]), in memory; an append onto it. The search of space.Path in memory. Path of space: what a call returns. -/
import Derived.Test.YtkhmngljpfibcaaGreatDoorPUu
import Derived.Test.YtkhmngljpfibcaaGreatDoorPYf
import Derived.Test.YtkhmngljpfibcaaGreatDoorPHb
import Derived.Test.YtkhmngljpfibcaaGreatDoorPBt
import Derived.ArgAppend
namespace Go.Proofs.YtkhmngljpfibcaaGreatDoor
set_option maxRecDepth 100000
set_option maxHeartbeats 3200000
open Go.Lib (hid)
section
open Go.RowKit

theorem sfind1_any (Ax : Option Addr) (nx cx : Nat) (X : List Int) (pb : Nat) (Ay : Option Addr) (ny cy : Nat) (Y : List Int) (w : World) (hx : ZIn w Ax X) (hl : X.length = nx) (hn : nx ≤ 9223372036854775807) (h : MB w pb Ay ny cy Y) (hy : ny ≤ 9223372036854775807) :
 Calls Tryz.prog 142 #[.slice Ax nx cx, .pointer (some ⟨pb, 0, none⟩)] w fun e w' => e = .returned (.bool (isL Y X)) ∧ Below w.heap.size w w' := by
 obtain ⟨h1, h2, h3⟩ := h;have c0 : w.cell? ⟨pb, 0, none⟩ = some (.slice Ay ny cy) := by simp [World.cell?, h1]
 have HE := hid (equal_any Ax nx cx Ay ny cy X Y w hx hl h2 h3 hn hy);clear h1 h2 h3 hx hl;go_enter Tryz.func142, Tryz.ntmps142;go_wp2_with fail;((with_reducible refine HE.out.mono ?_); rintro e w1 ⟨rfl, hb1⟩)
 have HB1 := hid hb1;go_wp2_with fail;go_ret;exact ⟨rfl, HB1.out⟩
theorem lindex_sf (A : Option Addr) (n cap : Nat) (L : List (List Int)) (w : World) (h : LIn w A L) (hn : L.length = n) (hn4 : n ≤ 9223372036854775806) (pb : Nat) (Ay : Option Addr) (ny cy : Nat) (Y : List Int) (hy : ny ≤ 9223372036854775807) (hS : MB w pb Ay ny cy Y) :
 Calls Tryz.prog 132 #[.slice A n cap, .func (.func 142) #[] #[.pointer (some ⟨pb, 0, none⟩)]] w fun e w' => e = .returned (.int .i64 (lidx (isL Y) L)) ∧ Below w.heap.size w w' := by
 have H0 := hid h; clear h;have HN := hid hn; clear hn;have HSt := hid hS; clear hS;go_enter Tryz.func132, Tryz.ntmps132;go_wp2_with fail;go_loopg [8] (n) (fun g i wr => ∃ k : Nat, k + g = n ∧ i = .int .i64 k ∧ (∀ s ∈ L.take k, (isL Y) s = false) ∧ Below w.heap.size w wr);case atStart => exact ⟨0, by omega, rfl, by simp, Below.refl _ _⟩
 case round =>
  obtain ⟨k, hk, rfl, hno, hB⟩ := hrel;have HK := hid hk;have HNo := hid hno;have HB := hid hB;have HT := hid (H0.out.below hB);have hle : k ≤ n := by omega
  clear hk hno hB;by_cases hlt : k < n
  · have hlt' : k < L.length := by rw [HN.out]; exact hlt
    obtain ⟨ad, rfl, hp, u, c0, Ax, nx, cx, rfl, zx, hxl, hxc, hxd⟩ := HT.out k hlt';have HTk := hid (List.take_succ_eq_append_getElem hlt');have HAt := hid (lidx_at (p := (isL Y)) hlt');have hXm := List.getElem_mem hlt';generalize L[k] = X at *;have HX := hid (sfind1_any Ax nx cx X pb Ay ny cy Y wr zx hxl (by omega) (HSt.out.below HB.out) hy);clear hlt' zx hxl hXm;cases hv : (isL Y) X with
    | true =>
     rw [hv] at HX;have HV := hid (HAt.out hv HNo.out); clear hv;go_wp2_with fail;((with_reducible refine HX.out.mono ?_); rintro e w1 ⟨rfl, hb1⟩)
     have HB1 := hid (below_then HB.out hb1);go_wp2_with fail;go_ret;exact ⟨ret_int HV.out.symm, HB1.out⟩
    | false =>
     rw [hv] at HX;have HV := hid hv; clear hv HAt;go_wp2_with fail;((with_reducible refine HX.out.mono ?_); rintro e w1 ⟨rfl, hb1⟩)
     have HB1 := hid (below_then HB.out hb1);clear hb1;go_wp2_with fail;go_roundg (gk - 1);case measure => have := HK.out; omega
     case rel => exact ⟨k + 1, by have := HK.out; omega, by go_num, by
      rw [HTk.out]; intro s hs;rcases List.mem_append.1 hs with h1 | h1
      · exact HNo.out s h1
      · have : s = X := by simpa using h1
        rw [this]; exact HV.out, HB1.out⟩
  · have HV := hid (show lidx (isL Y) L = -1 from lidx_no (by have := HNo.out; rwa [List.take_of_length_le (by rw [HN.out]; omega)] at this));go_wp2_with fail;go_ret;exact ⟨ret_int HV.out.symm, HB.out⟩
theorem sfind_any (As : Option Addr) (n cs : Nat) (Av : Option Addr) (nm cv : Nat) (fl : Bool) (LL : List (List Int)) (Am : Option Addr) (m cm : Nat) (M : List Int) (w : World) (h : LIn w As LL) (hn : LL.length = n) (hn4 : n ≤ 9223372036854775806) (hM : ZIn w Am M) (hm : M.length = m) (hm2 : m ≤ 9223372036854775807) :
 Calls Tryz.prog 68 #[.agg #[.slice As n cs, .slice Av nm cv, .bool fl], .slice Am m cm] w fun e w' => e = .returned (.int .i64 (lidx (isL M) LL)) ∧ Below w.heap.size w w' := by
 have HB := hid (two_boxes w (.cells #[.slice As n cs, .slice Av nm cv, .bool fl] 41) (.cells #[.slice Am m cm] 27));have hb1 := heap_alloc_new (w.alloc (.cells #[.slice As n cs, .slice Av nm cv, .bool fl] 41)) (.cells #[.slice Am m cm] 27);rw [World.size_alloc] at hb1;have HC := hid (lindex_sf As n cs LL _ (h.below HB.out) hn hn4 (w.heap.size + 1) Am m cm M hm2 ⟨hb1, hM.below HB.out, hm⟩);have hsb := heap_alloc_new w (.cells #[.slice As n cs, .slice Av nm cv, .bool fl] 41);have HSb := hid ((show SpB _ w.heap.size (.slice As n cs) (.slice Av nm cv) fl from hsb).below (below_alloc _ (.cells #[.slice Am m cm] 27)));obtain ⟨s0, s1, s2⟩ := HSb.out.cells;clear h hM hm hn hb1 hsb;go_enter Tryz.func68, Tryz.ntmps68;go_wp2_with fail;((with_reducible refine HC.out.mono ?_); rintro e w2 ⟨rfl, hb2⟩)
 have HB2 := hid (below_then HB.out hb2);go_wp2_with fail;go_ret;exact ⟨rfl, HB2.out⟩
theorem sform1_any (xf xt xs k9 : Int) (kb : Nat) (w : World) (h : KB w kb k9) (r1 : 0 ≤ xf) (r2 : xf < k9) (r3 : 0 ≤ xt) (r4 : xt < k9) :
 Calls Tryz.prog 193 #[.agg #[.int .i64 xf, .int .i64 xt, .int .i64 xs], .pointer (some ⟨kb, 0, none⟩)] w fun e w' => e = .returned (.bool false) ∧ Below w.heap.size w w' := by
 have HB := hid (below_alloc w (.cells #[.int .i64 xf, .int .i64 xt, .int .i64 xs] 113));have k0 := (h.below HB.out).cell;have y1 : decide (xf < 0) = false := decide_eq_false (by omega);have y2 : decide (xf ≥ k9) = false := decide_eq_false (by omega);have y3 : decide (xt < 0) = false := decide_eq_false (by omega);have y4 : decide (xt ≥ k9) = false := decide_eq_false (by omega);clear h;go_enter Tryz.func193, Tryz.ntmps193;go_wp2_with fail;go_ret;exact ⟨rfl, HB.out⟩
theorem mindex_sf (A : Option Addr) (n cap : Nat) (L : List Mv) (w : World) (h : Rd mvC 3 w A L) (hn : L.length = n) (hn4 : n ≤ 9223372036854775806) (kb n9 : Nat) (hS : KB w kb (n9 : Int)) (hmo : mvOk L n9) :
 Calls Tryz.prog 121 #[.slice A n cap, .func (.func 193) #[] #[.pointer (some ⟨kb, 0, none⟩)]] w fun e w' => e = .returned (.int .i64 (-1)) ∧ Below w.heap.size w w' := by
 have H0 := hid h; clear h;have HN := hid hn; clear hn;have HSt := hid hS; clear hS;have HMo := hid hmo; clear hmo;go_enter Tryz.func121, Tryz.ntmps121;go_wp2_with fail;go_loopg [8] (n) (fun g i wr => ∃ k : Nat, k + g = n ∧ i = .int .i64 k ∧ Below w.heap.size w wr);case atStart => exact ⟨0, by omega, rfl, Below.refl _ _⟩
 case round =>
  obtain ⟨k, hk, rfl, hB⟩ := hrel;have HK := hid hk;have HB := hid hB;have HT := hid (H0.out.below hB);have hle : k ≤ n := by omega
  clear hk hB;by_cases hlt : k < n
  · have hlt' : k < L.length := by rw [HN.out]; exact hlt
    obtain ⟨am, rfl, hpa, m0, m1, m2⟩ := mv_cells HT.out hlt';obtain ⟨r1, r2, r3, r4⟩ := HMo.out _ (List.getElem_mem hlt');generalize L[k] = X at *;obtain ⟨xf, xt, xs⟩ := X;simp only at m0 m1 m2 r1 r2 r3 r4;have HX := hid (sform1_any xf xt xs (n9 : Int) kb wr (HSt.out.below HB.out) r1 r2 r3 r4);clear hlt';go_wp2_with fail;((with_reducible refine HX.out.mono ?_); rintro e w1 ⟨rfl, hb1⟩)
    have HB1 := hid (below_then HB.out hb1);clear hb1;go_wp2_with fail;go_roundg (gk - 1);case measure => have := HK.out; omega
    case rel => exact ⟨k + 1, by have := HK.out; omega, by go_num, HB1.out⟩
  · go_wp2_with fail;go_ret;exact ⟨rfl, HB.out⟩
theorem mcont_sf (A : Option Addr) (n cap : Nat) (L : List Mv) (w : World) (h : Rd mvC 3 w A L) (hn : L.length = n) (hn4 : n ≤ 9223372036854775806) (kb n9 : Nat) (hS : KB w kb (n9 : Int)) (hmo : mvOk L n9) :
 Calls Tryz.prog 192 #[.slice A n cap, .func (.func 193) #[] #[.pointer (some ⟨kb, 0, none⟩)]] w fun e w' => e = .returned (.bool false) ∧ Below w.heap.size w w' := by
 have HI := hid (mindex_sf A n cap L w h hn hn4 kb n9 hS hmo);clear h hn hS hmo;go_enter Tryz.func192, Tryz.ntmps192;go_wp2_with fail;((with_reducible refine HI.out.mono ?_); rintro e w1 ⟨rfl, hb1⟩)
 have HB1 := hid hb1;go_wp2_with fail;go_ret;exact ⟨rfl, HB1.out⟩
theorem sformed_any (As : Option Addr) (n cs : Nat) (Av : Option Addr) (nm cv : Nat) (fl : Bool) (MV : List Mv) (w : World) (h1 : 0 < n) (h2 : n ≤ 2000) (h3 : nm ≤ 20000) (hm : MV.length = nm) (hr : Rd mvC 3 w Av MV) (ho : mvOk MV n) :
 Calls Tryz.prog 143 #[.agg #[.slice As n cs, .slice Av nm cv, .bool fl]] w fun e w' => e = .returned (.bool true) ∧ Below w.heap.size w w' := by
 have HB := hid (two_boxes w (.cells #[.slice As n cs, .slice Av nm cv, .bool fl] 41) (.cells #[.int .i64 (n : Int)] 3));have hb1 := heap_alloc_new (w.alloc (.cells #[.slice As n cs, .slice Av nm cv, .bool fl] 41)) (.cells #[.int .i64 (n : Int)] 3);rw [World.size_alloc] at hb1;have HKb := hid (show KB _ (w.heap.size + 1) (n : Int) from hb1);have hsb := heap_alloc_new w (.cells #[.slice As n cs, .slice Av nm cv, .bool fl] 41);have HSb := hid ((show SpB _ w.heap.size (.slice As n cs) (.slice Av nm cv) fl from hsb).below (below_alloc _ (.cells #[.int .i64 (n : Int)] 3)));have HC := hid (mcont_sf Av nm cv MV _ (hr.below HB.out) hm (by omega) (w.heap.size + 1) n HKb.out ho);have q1 : decide ((n : Int) > 0) = true := decide_eq_true (by omega);have q2 : decide ((n : Int) ≤ 2000) = true := decide_eq_true (by omega);have q3 : decide ((nm : Int) ≤ 20000) = true := decide_eq_true (by omega);clear hr hm ho hb1 hsb;go_enter Tryz.func143, Tryz.ntmps143
 go_upto_region 2 with (fail)
 obtain ⟨s0, s1, s2⟩ := HSb.out.cells;have k0 := HKb.out.cell;go_wp2_with fail;((with_reducible refine HC.out.mono ?_); rintro e w2 ⟨rfl, hb2⟩)
 have HB2 := hid (below_then HB.out hb2);go_wp2_with fail;go_ret;exact ⟨rfl, HB2.out⟩
end
section
open Go.RowKit

def QO (U : Nat) (w : World) (v : Value) (Q : List Int) : Prop :=
 ∃ g k cap cur, v = .slice (some ⟨g, k, none⟩) Q.length cap ∧ U ≤ g ∧ w.heap[g]? = some (.cells cur 3 (0, 0)) ∧ Q.length ≤ cap ∧ cap ≤ maxLen ∧ k + cap ≤ cur.size ∧ ∀ (j : Nat) (x : Int), Q[j]? = some x → cur[k + j]? = some (.int .i64 x)
section
variable {U : Nat} {w w' : World} {v : Value} {Q : List Int}
theorem QO.lt (h : QO U w v Q) : ∀ g, v.ownBlock = some g → U ≤ g ∧ g < w.heap.size := by
 obtain ⟨g, k, cap, cur, rfl, h1, h2, _⟩ := h;intro g' e;simp [Value.ownBlock] at e;subst e;exact ⟨h1, (Array.getElem?_eq_some_iff.1 h2).1⟩
theorem QO.kept {row : Option Nat} (h : QO U w v Q) (hg : w.grownBy w' row) (hne : v.ownBlock = none ∨ v.ownBlock ≠ row) : QO U w' v Q := by
 obtain ⟨g, k, cap, cur, rfl, h1, h2, h3⟩ := h;refine ⟨g, k, cap, cur, rfl, h1, ?_, h3⟩;rw [hg.block g (Array.getElem?_eq_some_iff.1 h2).1 (by simpa [Value.ownBlock] using hne)];exact h2
theorem QO.below (h : QO U w v Q) (hb : Below w.heap.size w w') : QO U w' v Q := by
 obtain ⟨g, k, cap, cur, rfl, h1, h2, h3⟩ := h;exact ⟨g, k, cap, cur, rfl, h1, by rw [hb.block g (Array.getElem?_eq_some_iff.1 h2).1]; exact h2, h3⟩
theorem QO.at_ (h : QO U w v Q) : ∃ g k cap, v = .slice (some ⟨g, k, none⟩) Q.length cap ∧ Q.length ≤ cap ∧ cap ≤ maxLen ∧ U ≤ g ∧ g < w.heap.size ∧ ∀ (j : Nat) (x : Int), Q[j]? = some x → w.cell? ⟨g, k + j, none⟩ = some (.int .i64 x) := by
 obtain ⟨g, k, cap, cur, rfl, h1, h2, h3, h4, h5, h6⟩ := h;exact ⟨g, k, cap, rfl, h3, h4, h1, (Array.getElem?_eq_some_iff.1 h2).1, fun j x hj => by rw [cell_of_row w g (k + j) cur 3 (0, 0) h2]; exact h6 j x hj⟩
theorem QO.tail {x : Int} (h : QO U w v (x :: Q)) : ∃ g k cap, v = .slice (some ⟨g, k, none⟩) (Q.length + 1) cap ∧ QO U w (sliced (some ⟨g, k, none⟩) 1 (Q.length + 1) cap 1) Q := by
 obtain ⟨g, k, cap, cur, rfl, h1, h2, h3, h4, h5, h6⟩ := h;simp only [List.length_cons] at h3;refine ⟨g, k, cap, rfl, ?_⟩;unfold sliced;by_cases hc : cap = 1
 · have hq : Q = [] := List.eq_nil_of_length_eq_zero (by omega);subst hq;rw [if_pos hc];exact ⟨g, k, cap - 1, cur, rfl, h1, h2, by simp, by omega, by omega, fun j y hj => by simp at hj⟩
 · rw [if_neg hc];refine ⟨g, k + 1, cap - 1, cur, ?_, h1, h2, by omega, by omega, by omega, fun j y hj => ?_⟩
   · simp [Addr.add_lit]
   · rw [show k + 1 + j = k + (j + 1) by omega]; exact h6 (j + 1) y (by simpa using hj)
theorem QO.of_row (h : w'.ownsRow w.heap.size 3 1 v Q.length (Q.map (Value.int .i64))) (hu : U ≤ w.heap.size) (h0 : 0 < Q.length) : QO U w' v Q := by
 rcases h.2 with ⟨_, e⟩ | ⟨g, cap, cur, rfl, h1, h2, h3, h4, h5, h6⟩
 · omega
 · refine ⟨g, 0, cap, cur, rfl, by omega, h2, h3, h4, by omega, fun j x hj => ?_⟩;have hl := (List.getElem?_eq_some_iff.1 hj).1;have e1 : (Q.map (Value.int .i64))[j]? = some (.int .i64 x) := by rw [List.getElem?_map, hj]; rfl
   rw [← h6, List.getElem?_take, if_pos (by omega)] at e1;rw [Nat.zero_add]; simpa using e1
end
theorem wpList_append_qo {P : Program} {w : World} {U : Nat} {ops : Array Oper} {rest : List Oper} {o : Oper} {a : Act} {R : Exit → Act → World → Prop}
 (hg : o.guard = none) (s x : Operand) (t : TypeId) (hop : o.op = Op.call { callee := Callee.builtin Builtin.append, args := #[s, x], argTypes := #[t, t] })
 (i : TypeInfo) (h1 : P.underlying t = some (.slice 3)) (h2 : P.info? 3 = some i) (h3 : i.zero = some (.int .i64 0)) (h4 : i.size = 1) (h5 : i.bytes = 8)
 (v : Value) (Q : List Int) (hs : a.eval s = v) (hq : QO U w v Q) (hU : U ≤ w.heap.size) (hl : Q.length ≤ 1000000)
 (ad : Addr) (c : Nat) (y : Int) (hx : a.eval x = .slice (some ad) 1 c) (hc : w.cell? ad = some (.int .i64 y))
 (hK : ∀ v' w', QO U w' v' (Q ++ [y]) → w.grownBy w' v.ownBlock → wpList P ops R rest (a.put o.dst v') w') :
 wpList P ops R (o :: rest) a w := by
 obtain ⟨g, k, cap, cur, rfl, q1, q2, q3, q4, q5, q6⟩ := hq;have hcell : ∀ j, w.cell? ⟨g, k + j, none⟩ = cur[k + j]? := fun j => by rw [cell_of_row w g (k + j) cur 3 (0, 0) q2]
 have hnews : ∀ j u, ([Value.int .i64 y] : List Value)[j]? = some u → w.cell? (ad.add j) = some u := by
  intro j u hj
  match j, hj with
  | 0, hj => simp at hj; subst hj; rw [show ad.add 0 = ad from by unfold Addr.add; split <;> simp_all]; exact hc
  | j + 1, hj => simp at hj
 have holds : ∀ j u, (Q.map (Value.int .i64))[j]? = some u → w.cell? ⟨g, k + j, none⟩ = some u := by
  intro j u hj;rw [List.getElem?_map] at hj;cases e : Q[j]? with
  | none => rw [e] at hj; cases hj
  | some z =>
   rw [e] at hj; cases hj;rw [hcell]; exact q6 j z e
 have hfz : ∀ o, w.frozen? ⟨g, o, none⟩ = false := fun o => by simp [World.frozen?, q2]
 refine wpList_append_arg w hg s x t hop 3 i (.int .i64 0) 1 8 h1 h2 h3 h4 h5 rfl (by decide) g k Q.length cap (Q.map (Value.int .i64)) hs (by simp) holds ad 1 c [.int .i64 y] hx rfl hnews (by intro u hu; simp at hu; subst hu; rfl)
  (fun hr j hj => ?_) (by unfold maxLen; omega) (by omega) (fun hr => ?_) (fun _ v' w' ho hgr => ?_)
 · simp at hj;subst hj;refine ⟨?_, hfz _⟩;rw [show k + Q.length * 1 + 0 = k + Q.length by omega, hcell];simp; omega
 · have hst : w.setCells g (k + Q.length * 1) [.int .i64 y] = w.setCell ⟨g, k + Q.length, none⟩ (.int .i64 y) := by simp [World.setCells]
   rw [hst];refine hK _ _ ⟨g, k, cap, cur.setIfInBounds (k + Q.length) (.int .i64 y), by simp, q1, ?_, by simp; omega, q4, by simp; omega, fun j z hj => ?_⟩ (Lib.grownBy_setB (grown_refl w (some g)) _ _)
   · simp [World.setCell, Array.getElem?_modify, q2]
   · rw [Array.getElem?_setIfInBounds];rcases Nat.lt_or_ge j Q.length with h9 | h9
     · rw [if_neg (by omega)];rw [List.getElem?_append_left h9] at hj;exact q6 j z hj
     · rw [List.getElem?_append_right h9] at hj;have : j - Q.length = 0 := by
        rcases Nat.eq_zero_or_pos (j - Q.length) with h8 | h8
        · exact h8
        · rw [List.getElem?_eq_none (by simp; omega)] at hj; cases hj
       rw [this] at hj;simp at hj;subst hj;rw [if_pos (by omega), if_pos (by omega)]
 · refine hK _ _ (QO.of_row (w := w) (by rw [List.length_append, List.map_append]; exact ho) hU (by simp)) ⟨hgr.os, hgr.tape, hgr.output, hgr.size, fun k hk _ => hgr.block k hk (by simp)⟩
end
section
open Go.RowKit

theorem fold_filter (q : Nat) : ∀ (L : List Mv) (S : BfS), L.foldl (bfOne q) S = (L.filter fun x => decide (x.f = (q : Int))).foldl (bfOne q) S
 | [], S => rfl
 | m :: L, S => by
  rw [List.foldl_cons, List.filter_cons];by_cases h : m.f = (q : Int)
  · rw [if_pos (by simpa using h), List.foldl_cons]; exact fold_filter q L _
  · rw [if_neg (by simpa using h), bfOne_keep (fun h9 => h h9.1)]; exact fold_filter q L S
theorem bfRow_out {MV : List Mv} {n q : Nat} {s : List Mv} (S : BfS) (hq : q < n) (h : (outL MV n)[q]? = some s) : bfRow MV q S = s.foldl (bfOne q) S := by
 rw [outL_at MV n q hq] at h;cases h;exact fold_filter q MV S
theorem flat_set : ∀ (L : List Mv) (t : Nat) (m : Mv), t < L.length → (((L.flatMap mvC).set (t * 3) (.int .i64 m.f)).set (t * 3 + 1) (.int .i64 m.t)).set (t * 3 + 2) (.int .i64 m.s) = (L.set t m).flatMap mvC
 | [], t, m, h => by simp at h
 | x :: L, 0, m, _ => by simp [mvC]
 | x :: L, t + 1, m, h => by
  have ih := flat_set L t m (by simpa using h);rw [List.set_cons_succ, List.flatMap_cons, List.flatMap_cons, ← ih];simp only [mvC, List.cons_append, List.nil_append];rw [show (t + 1) * 3 = t * 3 + 1 + 1 + 1 by omega];simp only [List.set_cons_succ]
theorem OMv.set3 {w wr : World} {g n cap : Nat} {L : List Mv} (h : OMv w wr (.slice (some ⟨g, 0, none⟩) n cap) L) (hg : w.heap.size ≤ g) {t : Nat} (ht : t < L.length) (m : Mv) :
 OMv w (((wr.setCell ⟨g, t * 3, none⟩ (.int .i64 m.f)).setCell ⟨g, t * 3 + 1, none⟩ (.int .i64 m.t)).setCell ⟨g, t * 3 + 2, none⟩ (.int .i64 m.s)) (.slice (some ⟨g, 0, none⟩) n cap) (L.set t m) := by
 obtain ⟨A', c', he⟩ := h.slice;cases he;have h1 := ((h.1.stored (t * 3) (.int .i64 m.f)).1.stored (t * 3 + 1) (.int .i64 m.t)).1.stored (t * 3 + 2) (.int .i64 m.s) |>.1;rw [flat_set L t m ht] at h1;refine ⟨by rw [List.length_set]; exact h1, ?_⟩;exact ((h.2.setCell (p := ⟨g, t * 3, none⟩) hg _).setCell (p := ⟨g, t * 3 + 1, none⟩) hg _).setCell (p := ⟨g, t * 3 + 2, none⟩) hg _
def MetR (n : Nat) (S : BfS) (B : List Bool) : Prop := B.length = n ∧ ∀ j, j < n → B[j]? = some (decide (j = 0) || !bNone S.B j)
def ByM (n : Nat) (S : BfS) (L : List Mv) : Prop := L.length = n ∧ ∀ (j : Nat) (m : Mv), S.B[j]? = some (some m) → L[j]? = some m
structure PS (n : Nat) (w3 : World) (tb yb U : Nat) (S : BfS) (i : Nat) (qv : Value) (wr : World) : Prop where
 met : ∃ B, BL wr tb B ∧ MetR n S B
 by_ : ∃ L, OMv w3 wr (.slice (some ⟨yb, 0, none⟩) n n) L ∧ ByM n S L
 que : QO U wr qv (qI (S.Q.drop i))
 us : U ≤ wr.heap.size
section
variable {n : Nat} {w3 wr w' w7 : World} {tb yb U : Nat} {S : BfS} {i : Nat} {qv v7 : Value}
theorem PS.below (h : PS n w3 tb yb U S i qv wr) (hb : Below wr.heap.size wr w') : PS n w3 tb yb U S i qv w' := by
 obtain ⟨⟨B, h1, h2⟩, ⟨L, h3, h4⟩, h5, h6⟩ := h;exact ⟨⟨B, h1.below hb, h2⟩, ⟨L, h3.below hb, h4⟩, h5.below hb, by have := hb.size; omega⟩
theorem PS.bel (h : PS n w3 tb yb U S i qv wr) : Below w3.heap.size w3 wr := by
 obtain ⟨_, ⟨L, h3, _⟩, _, _⟩ := h;exact h3.2
theorem PS.apart (h : PS n w3 tb yb U S i qv wr) {g : Nat} (hg : g < U) : qv.ownBlock = none ∨ qv.ownBlock ≠ some g := by
 cases e : qv.ownBlock with
 | none => exact .inl rfl
 | some k => exact .inr fun e9 => by have := (h.que.lt k e).1; cases e9; omega
def stW (w : World) (tb yb t : Nat) (m : Mv) : World := (((w.setCell ⟨tb, t, none⟩ (.bool true)).setCell ⟨yb, t * 3, none⟩ (.int .i64 m.f)).setCell ⟨yb, t * 3 + 1, none⟩ (.int .i64 m.t)).setCell ⟨yb, t * 3 + 2, none⟩ (.int .i64 m.s)
theorem st_grown1 (w : World) (tb t : Nat) : w.grownBy (w.setCell ⟨tb, t, none⟩ (.bool true)) (some tb) := Lib.grownBy_setB (grown_refl w (some tb)) t _
theorem st_grown3 (w : World) (yb t : Nat) (m : Mv) : w.grownBy (((w.setCell ⟨yb, t * 3, none⟩ (.int .i64 m.f)).setCell ⟨yb, t * 3 + 1, none⟩ (.int .i64 m.t)).setCell ⟨yb, t * 3 + 2, none⟩ (.int .i64 m.s)) (some yb) :=
 Lib.grownBy_setB (Lib.grownBy_setB (Lib.grownBy_setB (grown_refl w (some yb)) _ _) _ _) _ _
theorem PS.put (h : PS n w3 tb yb U S i qv wr) (h1 : tb < U) (h2 : yb < U) (t : Nat) (m : Mv) : QO U (stW wr tb yb t m) qv (qI (S.Q.drop i)) :=
 (h.que.kept (st_grown1 wr tb t) (h.apart h1)).kept (st_grown3 _ yb t m) (h.apart h2)
theorem PS.fin (h : PS n w3 tb yb U S i qv wr) (h1 : tb < U) (h2 : yb < U) (h3 : tb ≠ yb) (h4 : w3.heap.size ≤ tb) (h5 : w3.heap.size ≤ yb) {t : Nat} (ht : t < n) (hl : S.B.length = n) (hi : i ≤ S.Q.length) {m : Mv} {o : Obj}
 (hq : QO U w7 v7 (qI (S.Q.drop i) ++ [(t : Int)])) (hw : ((stW wr tb yb t m).alloc o).grownBy w7 qv.ownBlock) : PS n w3 tb yb U ⟨S.B.set t (some m), S.Q ++ [t]⟩ i v7 w7 := by
 have hap1 := h.apart h1;have hap2 := h.apart h2;have hlt := h.que.lt;have hus := h.us;obtain ⟨⟨B, b1, b2, b3⟩, ⟨L, l1, l2, l3⟩, _, _⟩ := h;have hB : BL (stW wr tb yb t m) tb (B.set t true) := (((b1.set t true).other (fun e => h3 e.symm) _).other (fun e => h3 e.symm) _).other (fun e => h3 e.symm) _;have hL0 : OMv w3 (wr.setCell ⟨tb, t, none⟩ (.bool true)) (.slice (some ⟨yb, 0, none⟩) n n) L :=
  ⟨l1.1.kept (st_grown1 wr tb t) (.inr fun e => h3 (by simpa [Value.ownBlock] using e.symm)), l1.2.setCell (p := ⟨tb, t, none⟩) h4 _⟩
 have hL : OMv w3 (stW wr tb yb t m) (.slice (some ⟨yb, 0, none⟩) n n) (L.set t m) := hL0.set3 h5 (by omega) m;have hal := below_alloc (stW wr tb yb t m) o;have hne : ∀ g, qv.ownBlock = none ∨ qv.ownBlock ≠ some g → some g ≠ qv.ownBlock := fun g hg e => by
  rcases hg with h9 | h9
  · rw [h9] at e; cases e
  · exact h9 e.symm
 have hB7 : BL w7 tb (B.set t true) := by
  have h9 := hB.below hal;unfold BL;rw [hw.block tb h9.lt (hne _ hap1)]; exact h9
 have hL7 : OMv w3 w7 (.slice (some ⟨yb, 0, none⟩) n n) (L.set t m) :=
  ⟨(hL.below hal).1.kept hw (.inr fun e => hne _ hap2 (by simpa [Value.ownBlock] using e)), (hL.below hal).2.grown hw (hL.below hal).2.size (fun g hg => by have := (hlt g hg).1; omega)⟩
 refine ⟨⟨_, hB7, by rw [List.length_set]; exact b2, fun j hj => ?_⟩, ⟨_, hL7, by rw [List.length_set]; exact l2, fun j x hx => ?_⟩, ?_, ?_⟩
 · simp only;by_cases e : t = j
   · subst e;have e1 : bNone (S.B.set t (some m)) t = false := by
      cases h9 : bNone (S.B.set t (some m)) t with
      | false => rfl
      | true => have := (bNone_iff _ _).1 h9; rw [List.getElem?_set_self (by omega)] at this; cases this
     rw [List.getElem?_set_self (by omega), e1]; simp
   · have e1 : bNone (S.B.set t (some m)) j = bNone S.B j := by unfold bNone; rw [List.getElem?_set_ne e]
     rw [List.getElem?_set_ne e, e1]; exact b3 j hj
 · simp only at hx;by_cases e : t = j
   · subst e;rw [List.getElem?_set_self (by omega)] at hx;cases hx;rw [List.getElem?_set_self (by omega)]
   · rw [List.getElem?_set_ne e] at hx ⊢;exact l3 j x hx
 · simp only;rw [List.drop_append_of_le_length hi, qI_app]; exact hq
 · have := hw.size;have : (stW wr tb yb t m).heap.size = wr.heap.size := by simp [stW]
   simp at *; omega
end
end
section
open Go.RowKit

def mv0 : Mv := ⟨0, 0, 0⟩
theorem made_moves (n : Nat) : (madeCells #[Value.int .i64 0, .int .i64 0, .int .i64 0] (n * 3)).toList = (List.replicate n mv0).flatMap mvC := by
 have e1 : (madeCells #[Value.int .i64 0, .int .i64 0, .int .i64 0] (n * 3)).toList = List.replicate (n * 3) (.int .i64 0) := by
  apply List.ext_getElem?;intro j;rw [List.getElem?_replicate];unfold madeCells;simp only [Array.toList_map, Array.toList_range, List.getElem?_map];by_cases h : j < n * 3
  · rw [List.getElem?_range h, if_pos h];simp only [Option.map_some, Option.some.injEq];have h3 : j % 3 = 0 ∨ j % 3 = 1 ∨ j % 3 = 2 := by omega
    rcases h3 with h3 | h3 | h3 <;> simp [h3]
  · rw [List.getElem?_eq_none (by simpa using h), if_neg h]; rfl
 rw [e1]
 induction n with
 | zero => rfl
 | succ n ih => rw [List.replicate_succ, List.flatMap_cons, ← ih (by
  apply List.ext_getElem?;intro j;rw [List.getElem?_replicate];unfold madeCells;simp only [Array.toList_map, Array.toList_range, List.getElem?_map];by_cases h : j < n * 3
  · rw [List.getElem?_range h, if_pos h];simp only [Option.map_some, Option.some.injEq];have h3 : j % 3 = 0 ∨ j % 3 = 1 ∨ j % 3 = 2 := by omega
    rcases h3 with h3 | h3 | h3 <;> simp [h3]
  · rw [List.getElem?_eq_none (by simpa using h), if_neg h]; rfl), show (n + 1) * 3 = n * 3 + 1 + 1 + 1 by omega, List.replicate_succ, List.replicate_succ, List.replicate_succ]; rfl
theorem mk_moves (n : Nat) (hn : n ≤ 1000000) (w : World) : (Instr.makeSlice 29 (.int .i64 (n : Int)) (.int .i64 (n : Int))).run Tryz.prog w = .ok (.slice (some ⟨w.heap.size, 0, none⟩) n n) (w.alloc (.cells (madeCells #[.int .i64 0, .int .i64 0, .int .i64 0] (n * 3)) 113)) := by
 obtain ⟨i0, hi, hz0, hz1, hz2⟩ := info_parts moveInfo;have h := run_make (P := Tryz.prog) w 29 113 i0 _ Tryz.underlying29 hi hz0 .i64 .i64 (n : Int) (n : Int) (by omega) (by omega) (by rw [hz2]; omega) (by omega);rw [hz1, show (Value.agg #[.int .i64 0, .int .i64 0, .int .i64 0]).cells = #[.int .i64 0, .int .i64 0, .int .i64 0] from rfl] at h;simpa using h
theorem OMv.made (w0 w : World) (n : Nat) (hb : Below w0.heap.size w0 w) (hn : n ≤ 1000000) : OMv w0 (w.alloc (.cells (madeCells #[.int .i64 0, .int .i64 0, .int .i64 0] (n * 3)) 113)) (.slice (some ⟨w.heap.size, 0, none⟩) n n) (List.replicate n mv0) := by
 have ho := World.ownsRow_lit (base := w0.heap.size) (e := 113) (size := 3) w (madeCells #[.int .i64 0, .int .i64 0, .int .i64 0] (n * 3)) n hb.size (by unfold maxLen; omega) (size_madeCells _ _);rw [made_moves] at ho;exact ⟨by rw [List.length_replicate]; exact ho, below_then hb (below_alloc w _)⟩
theorem pathV_of {MV : List Mv} {n tn : Nat} {S : BfS} (h : BfI MV n S) (hle : BfLe S (bfF MV n)) (ht : tn < n) (hm : tn = 0 ∨ bNone S.B tn = false) : pathV MV n tn = ((bfBack S.B (n + 1) tn).reverse, 0) := by
 obtain ⟨a, ha, _⟩ := h.has ht hm;have h2 : tn = 0 ∨ bNone (bfF MV n).B tn = false := by
  rcases hm with e | e
  · exact .inl e
  · right;have hl : tn < S.B.length := by rw [h.len]; exact ht
    cases hv : S.B[tn] with
    | none =>
     have := (bNone_iff S.B tn).2 (by rw [List.getElem?_eq_getElem hl, hv]);rw [this] at e; cases e
    | some m =>
     have h9 := hle.2.1 tn m (by rw [List.getElem?_eq_getElem hl, hv]);cases hb : bNone (bfF MV n).B tn with
     | false => rfl
     | true => have := (bNone_iff _ _).1 hb; rw [h9] at this; cases this
 unfold pathV;rw [if_pos h2, back_le h hle (n + 1) a tn ha]
theorem pathV_no {MV : List Mv} {n tn : Nat} (h0 : tn ≠ 0) (hb : bNone (bfF MV n).B tn = true) : pathV MV n tn = ([], 10) := by
 unfold pathV;rw [if_neg];rintro (e | e)
 · exact h0 e
 · rw [hb] at e; cases e
theorem met_start (n : Nat) : MetR n (bfStart n) ((List.replicate n false).set 0 true) := by
 refine ⟨by simp, fun j hj => ?_⟩;have e1 : bNone (bfStart n).B j = true := (bNone_iff _ _).2 (by unfold bfStart; simp only; rw [List.getElem?_replicate, if_pos hj]);rw [e1];by_cases e : 0 = j
 · subst e; rw [List.getElem?_set_self (by simpa using hj)]; simp
 · rw [List.getElem?_set_ne e, List.getElem?_replicate, if_pos hj];have : decide (j = 0) = false := decide_eq_false (fun h => e h.symm);rw [this]; rfl
theorem by_start (n : Nat) : ByM n (bfStart n) (List.replicate n mv0) := by
 refine ⟨by simp, fun j m hj => ?_⟩;unfold bfStart at hj;simp only at hj;rw [List.getElem?_replicate] at hj;split at hj <;> cases hj
theorem qo_one (w : World) (x : Int) : QO w.heap.size (w.alloc (.cells #[.int .i64 x] 3)) (.slice (some ⟨w.heap.size, 0, none⟩) 1 1) [x] := by
 refine ⟨w.heap.size, 0, 1, #[.int .i64 x], rfl, Nat.le_refl _, heap_alloc_new w _, by simp, by unfold maxLen; omega, by simp, fun j y hj => ?_⟩
 match j, hj with
 | 0, hj => simp at hj; subst hj; rfl
 | j + 1, hj => simp at hj
end
end Go.Proofs.YtkhmngljpfibcaaGreatDoor
