/- verdict.read: what a call does. -/
import Derived.Test.YtkhmngljpfibcaaGreatDoorPUu
import Derived.Test.YtkhmngljpfibcaaGreatDoorPOj
import Derived.Test.YtkhmngljpfibcaaGreatDoorPOh
import Derived.Test.YtkhmngljpfibcaaGreatDoorPOd
namespace Go.Proofs.YtkhmngljpfibcaaGreatDoor
set_option maxRecDepth 100000
set_option maxHeartbeats 12800000
open Go.Lib (hid)
open Go.RowKit

theorem numsP_app : ∀ a b : List (List UInt8), numsP (a ++ b) = match numsP a, numsP b with | some x, some y => some (x ++ y) | _, _ => none
 | [], b => by simp only [List.nil_append, numsP]; cases numsP b <;> rfl
 | s :: a, b => by
  rw [List.cons_append, numsP, numsP, numsP_app a b];cases atoiO s <;> cases numsP a <;> cases numsP b <;> rfl
theorem numsP_on {T : List (List UInt8)} {k : Nat} {Z : List Int} {z : Int} (h : numsP (T.take k) = some Z) (hk : k < T.length) (hz : atoiO T[k] = some z) : numsP (T.take (k + 1)) = some (Z ++ [z]) := by
 rw [List.take_succ_eq_append_getElem hk, numsP_app, h, numsP, hz]; rfl
theorem numsP_no {T : List (List UInt8)} {k : Nat} (hk : k < T.length) (hz : atoiO T[k] = none) : numsP T = none := by
 have e : T = T.take k ++ (T[k] :: T.drop (k + 1)) := by rw [← List.drop_eq_getElem_cons hk, List.take_append_drop]
 rw [e, numsP_app];have e2 : numsP (T[k] :: T.drop (k + 1)) = none := by rw [numsP, hz]
 rw [e2];cases numsP (List.take k T) <;> rfl
theorem readP_eq (C : Ce) (line : List UInt8) {hd : List UInt8} {T : List (List UInt8)} (h : cutAt 32 line = hd :: T) : readP C line = if hd = bClaim then some { C with cl := wdI (trimC line) + 1 } else match numsP T with | none => none | some l => setP C hd l := by
 unfold readP; rw [h]; rfl
theorem wdI_le (s : List UInt8) : -1 ≤ wdI s ∧ wdI s ≤ 10 := by
 unfold wdI;split
 · have := List.findIdx_le_length (p := fun i => decide ((wordS i).data.toList = s)) (xs := List.range 10);rw [List.length_range] at this;omega
 · omega
def StrK (b : Nat) (w w' : World) : Prop := ∀ (g : Nat) (cs : Array Value) (T : TypeId) (fz : Nat × Nat), (T = 9 ∨ (T = 31 ∧ g ≠ b)) → w.heap[g]? = some (.cells cs T fz) → w'.heap[g]? = some (.cells cs T fz)
theorem StrK.below {b : Nat} {w w' : World} (h : Below w.heap.size w w') : StrK b w w' := fun g _ _ _ _ hg => (h.block g (Array.getElem?_eq_some_iff.1 hg).1).trans hg
theorem StrK.trans {b : Nat} {w w' w2 : World} (h : StrK b w w') (h2 : StrK b w' w2) : StrK b w w2 := fun g cs T fz ht hg => h2 g cs T fz ht (h g cs T fz ht hg)
theorem StrK.set {b : Nat} {w w' : World} (h : StrK b w w') {o : Nat} {cs : Array Value} (hb : w'.heap[b]? = some (.cells cs 31 (0, 0))) (u : Value) : StrK b w (w'.setCell ⟨b, o, none⟩ u) := fun g ds T fz ht hg => by
 have h1 := h g ds T fz ht hg;exact ((Lib.grownBy_setB (grown_refl w' (some b)) o u).block g (Array.getElem?_eq_some_iff.1 h1).1 (fun e => by
  have e2 := Option.some.inj e;subst e2;rw [h1] at hb;cases hb;rcases ht with h5 | h5
  · exact absurd h5 (by decide)
  · exact h5.2 rfl)).trans h1
theorem StrK.app {b : Nat} {w w' w2 : World} (h : StrK b w w') {o : Obj} {B k n : Nat} {e : TypeId} {x : Value} {xs : List Value} (hr : w'.ownsRow B e k x n xs) (he : e ≠ 9) (he2 : e ≠ 31) (hg : (w'.alloc o).grownBy w2 x.ownBlock) : StrK b w w2 := fun g ds T fz ht hg2 => by
 have h1 := h g ds T fz ht hg2;have hlt := (Array.getElem?_eq_some_iff.1 h1).1;have h2 : (w'.alloc o).heap[g]? = some (.cells ds T fz) := ((below_alloc w' o).block g hlt).trans h1;refine (hg.block g (by simp; omega) (fun e2 => ?_)).trans h2;obtain ⟨cur, hc⟩ := own_kind (hr.alloc o) e2.symm;rw [h2] at hc;cases hc;rcases ht with h5 | h5
 · exact he h5
 · exact he2 h5.1
theorem setP_n0 (c : Ce) {Z : List Int} (h : Z.length ≠ 1) : setP c bNum Z = none := by
 match Z, h with
 | [], _ => rfl
 | [a], h => exact absurd rfl h
 | _ :: _ :: _, _ => rfl
theorem setP_m0 (c : Ce) {Z : List Int} (h : Z.length ≠ 3) : setP c bMove Z = none := by
 match Z, h with
 | [], _ => rfl
 | [_], _ => rfl
 | [_, _], _ => rfl
 | [_, _, _], h => exact absurd rfl h
 | _ :: _ :: _ :: _ :: _, _ => rfl
def RdPo (C : Ce) (line : List UInt8) (w0 : World) (b : Nat) (w : World) (e : Ending) (w' : World) : Prop := match readP C line with
 | none => e = .returned (.bool false) ∧ Below w0.heap.size w0 w' ∧ StrK b w w'
 | some D => e = .returned (.bool true) ∧ (∃ vr vp vk vv vs vx, CeB w0 w' b vr vp vk vv vs vx D) ∧ StrK b w w'
theorem RdPo.no {C : Ce} {line : List UInt8} {w0 w w' : World} {b : Nat} (h : readP C line = none) (hb : Below w0.heap.size w0 w') (hs : StrK b w w') : RdPo C line w0 b w (.returned (.bool false)) w' := by
 unfold RdPo; rw [h]; exact ⟨rfl, hb, hs⟩
theorem RdPo.yes {C D : Ce} {line : List UInt8} {w0 w w' : World} {b : Nat} {vr vp vk vv vs vx : Value} (h : readP C line = some D) (hc : CeB w0 w' b vr vp vk vv vs vx D) (hs : StrK b w w') : RdPo C line w0 b w (.returned (.bool true)) w' := by
 unfold RdPo; rw [h]; exact ⟨rfl, ⟨_, _, _, _, _, _, hc⟩, hs⟩
theorem rd_no {P : Program} {f : FuncId} {args : Array Value} {C : Ce} {line : List UInt8} {w0 w : World} {b : Nat} (h : Calls P f args w (RdPo C line w0 b w)) (h0 : readP C line = none) : Calls P f args w fun e w' => e = .returned (.bool false) ∧ Below w0.heap.size w0 w' ∧ StrK b w w' :=
 h.mono fun e w' h1 => by unfold RdPo at h1; rw [h0] at h1; exact h1
theorem rd_yes {P : Program} {f : FuncId} {args : Array Value} {C D : Ce} {line : List UInt8} {w0 w : World} {b : Nat} (h : Calls P f args w (RdPo C line w0 b w)) (h0 : readP C line = some D) : Calls P f args w fun e w' => ∃ vr vp vk vv vs vx, e = .returned (.bool true) ∧ CeB w0 w' b vr vp vk vv vs vx D ∧ StrK b w w' :=
 h.mono fun e w' h1 => by
  unfold RdPo at h1; rw [h0] at h1;obtain ⟨h2, ⟨vr, vp, vk, vv, vs, vx, h3⟩, h4⟩ := h1;exact ⟨vr, vp, vk, vv, vs, vx, h2, h3, h4⟩
theorem mvInfo29 : (Tryz.prog.info? 113).map (fun i => (i.zero, i.size, i.bytes)) = some (some (.agg #[.int .i64 0, .int .i64 0, .int .i64 0]), 3, 24) := by kernel_rfl
theorem vread_any (w0 w : World) (b : Nat) (vr vp vk vv vs vx : Value) (C : Ce) (line : ByteArray) (h : CeB w0 w b vr vp vk vv vs vx C) (hp : PW w0) (hs : line.size ≤ 262144) (hK : C.k.length ≤ 300000) (hV : C.v.length ≤ 300000) (hS : C.s.length ≤ 300000) (hX : C.x.length ≤ 300000) :
 Calls Tryz.prog 103 #[.pointer (some ⟨b, 0, none⟩), .string line] w (RdPo C line.data.toList w0 b w) := by
 obtain ⟨i0, hj, hz0, hz1, hz2⟩ := info_parts intInfo29;have HI := hid (And.intro hj (And.intro hz0 (And.intro hz1 hz2)));clear hj hz0 hz1 hz2;obtain ⟨i1, hj, hz0, hz1, hz2⟩ := info_parts rowInfo2;have HI1 := hid (And.intro hj (And.intro hz0 (And.intro hz1 hz2)));clear hj hz0 hz1 hz2;obtain ⟨i2, hj, hz0, hz1, hz2⟩ := info_parts mvInfo29;have HI2 := hid (And.intro hj (And.intro hz0 (And.intro hz1 hz2)));clear hj hz0 hz1 hz2;have HP0 := hid hp;have HPw := hid (hp.below h.bel);have HC0 := hid h;have HSp := hid (split_any line 32 w (by omega) HPw.out);have HTr := hid (fun w => trimP_any line w);clear h hp;go_enter Tryz.func103, Tryz.ntmps103;go_wp2_with fail;((with_reducible refine HSp.out.mono ?_); rintro e w1 ⟨L, rfl, hL, hcut, hll, hb1⟩)
 cases L with
 | nil => exact absurd hcut.symm (cutAt_ne 32 _)
 | cons hd T =>
  have HC1 := hid (HC0.out.below hb1);have HP1 := hid (HPw.out.below hb1);have HL := hid hL;have HSk1 := hid (StrK.below (b := b) hb1);obtain ⟨TT, hTT⟩ : ∃ TT, TT = T.map (fun s => s.data.toList) := ⟨_, rfl⟩;have HTc := hid (show cutAt 32 line.data.toList = hd.data.toList :: TT by rw [hTT]; exact hcut.symm);have HTl := hid (show TT.length = T.length by rw [hTT]; exact List.length_map ..);have HTm := hid (show ∀ x ∈ T, x.size ≤ 262144 from fun x hx => by
   have h1 := (cutAt_mem 32 line.data.toList x.data.toList (by rw [HTc.out, hTT]; exact List.mem_cons_of_mem _ (List.mem_map.2 ⟨x, hx, rfl⟩))).2;rw [len_byte, len_byte] at h1; omega)
  have HTg := hid (show ∀ (k : Nat) (h : k < T.length) (h2 : k < TT.length), TT[k]'h2 = T[k].data.toList from fun k h h2 => by subst hTT; simp);have HRe := hid (readP_eq C line.data.toList HTc.out);have c0' : w1.cell? ⟨w.heap.size, 0, none⟩ = some (.string hd) := sr_cell hL 0 (by simp);have htl : T.length ≤ 262144 := by simp at hll; omega
  have hHd : hd.toList = hd.data.toList := ByteArray.toList_eq _;have HHd := hid hHd;clear hTT;generalize hB : w.heap.size = B at *;obtain ⟨n, hn⟩ : ∃ n, T.length = n := ⟨_, rfl⟩;have HNn := hid hn;rw [show (hd :: T).length = n + 1 by simp [hn]];rw [hn] at htl HTl;clear hL hcut hll hb1 HSp HPw HC0 hHd hB hn;by_cases hcl : hd.data.toList = bClaim
  · have q0 : (hd.toList == [99, 108, 97, 105, 109]) = true := by rw [HHd.out, hcl]; rfl
    rw [if_pos hcl] at HRe;clear hcl;go_wp2_with fail;((with_reducible refine (vwords_any w1).mono ?_); rintro e w2 ⟨rfl, ⟨o, ho, hoc⟩, hb2⟩)
    have HO := hid (And.intro ho hoc);have HC2 := hid (HC1.out.below hb2);replace HSk1 := hid (HSk1.out.trans (StrK.below hb2));clear ho hoc hb2 HC1;go_wp2_with fail;((with_reducible refine (HTr.out _).mono ?_); rintro e w3 ⟨rfl, rfl⟩)
    go_wp2_with fail;((with_reducible refine (index_words _ o _ _ HO.out.1 HO.out.2).mono ?_); rintro e w4 ⟨rfl, rfl⟩)
    have hwd := wdI_le (⟨(trimC line.data.toList).toArray⟩ : ByteArray).data.toList;rw [show (⟨(trimC line.data.toList).toArray⟩ : ByteArray).data.toList = trimC line.data.toList by simp] at hwd ⊢;generalize wdI (trimC line.data.toList) = kd at *;have f0 := HC2.out.soft 0;obtain ⟨d0, d1, d2, d3, d4, d5, d6, d7⟩ := HC2.out.cells;have HF := hid (HC2.out.setCl (kd + 1));have HSf := hid (HSk1.out.set (o := 0) HC2.out.blk (.int .i64 (kd + 1)));go_wp2_with fail;go_ret;exact RdPo.yes HRe.out HF.out HSf.out
  have q0 : (hd.toList == [99, 108, 97, 105, 109]) = false := by rw [HHd.out]; exact beq_eq_false_iff_ne.2 hcl
  rw [if_neg hcl] at HRe;clear hcl HTr
  go_upto_region 6 with (fail)
  go_cut [26, 27, 28] (fun s26 s27 s28 wx => ∃ off : Nat, s26 = .slice (some ⟨B, off, none⟩) n n ∧ s27 = .int .i64 (n : Int) ∧ s28 = .int .i64 0 ∧ (n ≠ 0 → off = 1) ∧ w1 = wx)
  case first =>
   by_cases hn0 : n = 0
   · have HN0 := hid hn0;subst hn0;go_wp2_with fail;go_meet;exact ⟨0, rfl, rfl, rfl, fun h => absurd rfl h, rfl⟩
   · have HN0 := hid hn0;go_wp2_with fail;go_meet;exact ⟨1, rfl, rfl, rfl, fun _ => rfl, rfl⟩
  case rest =>
  obtain ⟨off, rfl, rfl, rfl, hoff, rfl⟩ := hcut;have HOff := hid hoff;clear hoff;go_wp2_with fail;go_loopg [6, 28] (n) (fun g vz iv wr => ∃ (k : Nat) (v : Value) (Z : List Int), k + g = n ∧ iv = .int .i64 (k : Int) ∧ vz = v ∧ NS w1 wr v Z ∧ numsP (TT.take k) = some Z ∧ Z.length = k);case atStart => exact ⟨0, _, [], by omega, rfl, rfl, NS.start (Below.refl _ _), rfl, rfl⟩
  case round =>
   obtain ⟨k, v, Z, hk, rfl, rfl, hZs, hZ, hzl⟩ := hrel;have HK := hid hk;have HZs := hid hZs;have HZ := hid hZ;have HZl := hid hzl;have hle : k ≤ n := by omega
   have hzl9 : Z.length ≤ 262144 := by omega
   have hsz := hZs.size;obtain ⟨vo, vc, rfl⟩ := hZs.slice;clear hk hZs hZ hzl;by_cases hlt : k < n
   · have hkT : k < T.length := by rw [HNn.out]; exact hlt
     have hkTT : k < TT.length := by rw [HTl.out]; exact hlt
     have q1' : w1.cell? ⟨B, off + k, none⟩ = some (.string T[k]) := by
      have := sr_cell HL.out (k + 1) (by simp; omega);rw [HOff.out (by omega), Nat.add_comm 1 k];simpa using this
     have q1 := cell_stays HZs.out.2 q1';have HOn := hid (fun z hz => numsP_on (z := z) HZ.out hkTT hz);have HNo := hid (numsP_no hkTT);rw [HTg.out k hkT hkTT] at HOn HNo;have hxs := HTm.out _ (List.getElem_mem hkT);generalize T[k] = x at *;have HPr := hid (HP1.out.below HZs.out.2);clear hkT hkTT q1';cases hat : Lib.atoiAll x.data.toList with
     | ok zv =>
      have HAt := hid (fun w => atoi_good x zv w (by omega) hat);have HOx := hid (HOn.out zv (by unfold atoiO; rw [hat]));clear hat;go_wp2_with fail;((with_reducible refine (HAt.out _).mono ?_); rintro e w3 ⟨rfl, hb3⟩)
      replace HZs := hid (HZs.out.below hb3);clear hb3 q1 HPr;go_wp2_with (at_builtin; refine wpList_append_own _ rfl _ _ 27 rfl w1.heap.size 3 i0 (.int .i64 0) 1 8 Tryz.underlying27 HI.out.1 HI.out.2.1 HI.out.2.2.1 HI.out.2.2.2 rfl (by decide) (.slice vo Z.length vc) _ _ rfl (HZs.out.1.alloc _) ⟨w3.heap.size, 0, none⟩ 1 1 [.int .i64 zv] rfl rfl ?c1 ?c2 ?c3 ?c4 ?c5 ?_);case c1 => intro j u hj; match j, hj with | 0, hj => simp at hj; subst hj; simp [Addr.add] | j + 1, hj => simp at hj
      case c2 => intro u hu; simp at hu; subst hu; rfl
      case c3 => unfold maxLen; omega
      case c4 => omega
      case c5 => have := HZs.out.size; simp; omega
      intro v' w7 hown7 hgrow7 _;have HZ7 := hid (HZs.out.push (x := zv) hown7 hgrow7);clear hown7 hgrow7;go_wp2_with fail;go_roundg (gk - 1);case measure => have := HK.out; omega
      case rel => exact ⟨k + 1, _, _, by have := HK.out; omega, by go_num, rfl, HZ7.out, HOx.out, by rw [List.length_append, List.length_singleton, HZl.out]⟩
     | _ =>
      have HAt := hid (atoi_bad x wr (by omega) HPr.out (fun v => by rw [hat]; simp));have HX := hid (show readP C line.data.toList = none by rw [HRe.out, HNo.out (by unfold atoiO; rw [hat])]);clear hat;go_wp2_with fail;((with_reducible refine HAt.out.mono ?_); rintro e w3 ⟨n3, N3, rfl, hb3⟩)
      have HBz := hid (below_then HC1.out.bel (below_then HZs.out.2 hb3));have HSz := hid (HSk1.out.trans (StrK.below (below_then HZs.out.2 hb3)));clear hb3;go_wp2_with fail;go_ret;exact RdPo.no HX.out HBz.out HSz.out
   · have HE := hid (show TT.take k = TT from List.take_of_length_le (by rw [HTl.out]; omega));rw [HE.out] at HZ;rw [HZ.out] at HRe;have c1 := cell_stays HZs.out.2 c0';have HC := hid (HC1.out.below HZs.out.2);have HX := hid (NS.up HC1.out.bel HZs.out);have HSk := hid (HSk1.out.trans (StrK.below HZs.out.2));have HBw := hid (below_then HC1.out.bel HZs.out.2);simp only at HRe;clear hle HK HZ HZl HZs HE HTm HTg HTl HL HNn HTc HP1 HC1 HSk1 hsz c0';by_cases hw0 : hd.data.toList = bNum
     · have q1 : (hd.toList == [110, 117, 109, 98, 101, 114]) = true := by rw [HHd.out, hw0]; rfl
       have HQ0 := hid (show setP C hd.data.toList Z = setP C bNum Z by rw [hw0]);clear hw0;by_cases hz1 : Z.length = 1
       · obtain ⟨za, rfl⟩ : ∃ a, Z = [a] := by
          match Z, hz1 with
          | [a], _ => exact ⟨a, rfl⟩
         have HQ := hid (show readP C line.data.toList = some { C with cn := za } by rw [HRe.out, HQ0.out]; rfl);obtain ⟨gz, cz, ez, hg0, hg1⟩ := HX.out.row (by simp);injection ez with ez1 _ ez3;subst ez1 ez3;have z0 := (HX.out.cells 0 (by simp)).1;simp only [List.getElem_cons_zero] at z0;clear hz1 hzl9;have HSf := hid (HSk.out.set (o := 1) HC.out.blk (.int .i64 za));have f1 := HC.out.soft 1;obtain ⟨d0, d1, d2, d3, d4, d5, d6, d7⟩ := HC.out.cells;have HF := hid (HC.out.setCn za);go_wp2_with fail;go_ret;exact RdPo.yes HQ.out HF.out HSf.out
       · have hz2 : ((Z.length : Int) != 1) = true := by simp; omega
         have HQ := hid (show readP C line.data.toList = none by rw [HRe.out, HQ0.out]; exact setP_n0 C hz1);clear hz1;go_wp2_with fail;go_ret;exact RdPo.no HQ.out HBw.out HSk.out
     have q1 : (hd.toList == [110, 117, 109, 98, 101, 114]) = false := by rw [HHd.out]; exact beq_eq_false_iff_ne.2 hw0
     have HN0 := hid hw0;clear hw0;by_cases hw1 : hd.data.toList = bRun
     · have q2 : (hd.toList == [114, 117, 110]) = true := by rw [HHd.out, hw1]; rfl
       have HQ := hid (show readP C line.data.toList = some { C with r := Z } by rw [HRe.out, hw1]; rfl);clear hw1;have HSf := hid (HSk.out.set (o := 2) HC.out.blk (.slice vo Z.length vc));have f2 := HC.out.soft 2;obtain ⟨d0, d1, d2, d3, d4, d5, d6, d7⟩ := HC.out.cells;have HF := hid (HC.out.setR HX.out);go_wp2_with fail;go_ret;exact RdPo.yes HQ.out HF.out HSf.out
     have q2 : (hd.toList == [114, 117, 110]) = false := by rw [HHd.out]; exact beq_eq_false_iff_ne.2 hw1
     have HN1 := hid hw1;clear hw1;by_cases hw2 : hd.data.toList = bPump
     · have q3 : (hd.toList == [112, 117, 109, 112]) = true := by rw [HHd.out, hw2]; rfl
       have HQ := hid (show readP C line.data.toList = some { C with p := Z } by rw [HRe.out, hw2]; rfl);clear hw2;have HSf := hid (HSk.out.set (o := 3) HC.out.blk (.slice vo Z.length vc));have f3 := HC.out.soft 3;obtain ⟨d0, d1, d2, d3, d4, d5, d6, d7⟩ := HC.out.cells;have HF := hid (HC.out.setP HX.out);go_wp2_with fail;go_ret;exact RdPo.yes HQ.out HF.out HSf.out
     have q3 : (hd.toList == [112, 117, 109, 112]) = false := by rw [HHd.out]; exact beq_eq_false_iff_ne.2 hw2
     have HN2 := hid hw2;clear hw2;by_cases hw3 : hd.data.toList = bMark
     · have q4 : (hd.toList == [109, 97, 114, 107]) = true := by rw [HHd.out, hw3]; rfl
       have HQ := hid (show readP C line.data.toList = some { C with k := C.k ++ [Z] } by rw [HRe.out, hw3]; rfl);clear hw3;obtain ⟨SL, o1, o2, o3, o4⟩ := HC.out.k;obtain ⟨Ax, cx, rfl, _⟩ := row_slice o1;have HOw := hid o1;have HSl := hid (And.intro o2 o3);clear o1 o2 o3 o4;obtain ⟨d0, d1, d2, d3, d4, d5, d6, d7⟩ := HC.out.cells;go_wp2_with (at_builtin; refine wpList_append_own_at _ rfl _ _ 28 rfl w0.heap.size 27 i1 (.slice none 0 0) 1 24 Tryz.underlying28 HI1.out.1 HI1.out.2.1 HI1.out.2.2.1 HI1.out.2.2.2 rfl (by decide) (.slice Ax C.k.length cx) _ _ rfl (HOw.out.alloc _) ⟨wr.heap.size, 0, none⟩ 1 1 [.slice vo Z.length vc] rfl rfl ?k1 ?k2 ?k3 ?k4 ?k5 ?_);case k1 => intro j u hj; match j, hj with | 0, hj => simp at hj; subst hj; simp [Addr.add] | j + 1, hj => simp at hj
       case k2 => intro u hu; simp at hu; subst hu; rfl
       case k3 => unfold maxLen; omega
       case k4 => omega
       case k5 => have := HBw.out.size; simp; omega
       intro v' w7 hown hgrow _ hat;obtain ⟨Ay, cy, rfl, _⟩ := row_slice hown;have hbk := HC.out.blk2 HOw.out (by decide) hgrow;have f4 : w7.frozen? ⟨b, 4, none⟩ = false := by simp [World.frozen?, hbk]
       have g4 : w7.cell? ⟨b, 4, none⟩ = some (.slice Ax C.k.length cx) := by simp [World.cell?, hbk]
       have HSf := hid ((HSk.out.app HOw.out (by decide) (by decide) hgrow).set (o := 4) hbk (.slice Ay (C.k.length + 1) cy));have HF := hid (HC.out.pushK HOw.out HSl.out.1 HSl.out.2 HX.out hown hgrow (by simpa using hat));clear hown hgrow hat hbk d0 d1 d2 d3 d4 d5 d6 d7;go_wp2_with fail;go_ret;exact RdPo.yes HQ.out HF.out HSf.out
     have q4 : (hd.toList == [109, 97, 114, 107]) = false := by rw [HHd.out]; exact beq_eq_false_iff_ne.2 hw3
     have HN3 := hid hw3;clear hw3;by_cases hw4 : hd.data.toList = bMove
     · have q5 : (hd.toList == [109, 111, 118, 101]) = true := by rw [HHd.out, hw4]; rfl
       have HQ0 := hid (show setP C hd.data.toList Z = setP C bMove Z by rw [hw4]);clear hw4;by_cases hz3 : Z.length = 3
       · obtain ⟨za, zb, zc, rfl⟩ : ∃ x y z, Z = [x, y, z] := by
          match Z, hz3 with
          | [x, y, z], _ => exact ⟨x, y, z, rfl⟩
         have HQ := hid (show readP C line.data.toList = some { C with v := C.v ++ [⟨za, zb, zc⟩] } by rw [HRe.out, HQ0.out]; rfl);obtain ⟨gz, cz, ez, hg0, hg1⟩ := HX.out.row (by simp);injection ez with ez1 _ ez3;subst ez1 ez3;have hzc := HX.out.cells;have z0 := (hzc 0 (by simp)).1;have z1 := (hzc 1 (by simp)).1;have z2 := (hzc 2 (by simp)).1;obtain ⟨Ax, cx, e0, _⟩ := row_slice HC.out.v.1;subst e0;have HOw := hid HC.out.v.1;obtain ⟨d0, d1, d2, d3, d4, d5, d6, d7⟩ := HC.out.cells;simp only [List.getElem_cons_zero, List.getElem_cons_succ] at z0 z1 z2;clear hz3 hzc d0 d1 d2 d3 d4 d6 d7 hzl9;go_wp2_with fail;have hbd : Below wr.heap.size wr wr.drew := (Below.refl _ _).drew;have HCd := hid (HC.out.below hbd);have HOd := hid (own_stays HOw.out hbd);have HXd := hid (HX.out.below hbd);have HBd := hid (below_then HBw.out hbd);have HSd := hid (HSk.out.trans (StrK.below hbd));have s0 := cell_stays hbd d5;have s1 := cell_stays hbd z0;have s2 := cell_stays hbd z1;have s3 := cell_stays hbd z2;have hS0 := And.intro s0 (And.intro s1 (And.intro s2 s3));clear hbd s0 s1 s2 s3 d5 z0 z1 z2 HC HOw HX HBw HSk c1;refine re4 19 hS0 (fun hHeld => ?_);clear hS0;generalize wr.drew = wd at *;refine tkE 0 [17, 18, 19] ?_;(try go_simp);refine tkE 1 [2, 3, 4, 16, 19] ?_;(try go_simp);refine tkE 2 [3, 4, 16, 19] ?_;(try go_simp);refine tkE 3 [4, 16, 19] ?_;(try go_simp);refine tkE 4 [16, 19] ?_;(try go_simp);refine tkE 5 [6, 7, 14, 15, 16, 19] ?_;(try go_simp);refine tkE 6 [7, 14, 15, 16, 19] ?_;(try go_simp);refine tkE 7 [14, 15, 16, 19] ?_;(try go_simp);refine tkE 8 [9, 10, 14, 15, 16, 19] ?_;(try go_simp);refine tkE 9 [10, 14, 15, 16, 19] ?_;(try go_simp);refine tkE 10 [14, 15, 16, 19] ?_;(try go_simp);refine tkE 11 [12, 13, 14, 15, 16, 19] ?_;(try go_simp);refine tkE 12 [13, 14, 15, 16, 19] ?_;(try go_simp);refine tkE 13 [14, 15, 16, 19] ?_;(try go_simp);refine tkE 14 [15, 16, 19] ?_;(try go_simp);have hS0 := hHeld;refine wpAnyE_one (i := 15) (by kernel_rfl) rfl (fun K hK => ?_);go_simp;skip;refine hK.out _ _ (fun _ => ⟨cell_stays (below_alloc _ _) hS0.1, cell_stays (below_alloc _ _) hS0.2.1, cell_stays (below_alloc _ _) hS0.2.2.1, cell_stays (below_alloc _ _) hS0.2.2.2⟩) (fun hH => ?_);have hHeld := hH (by decide);clear hH hK K;try go_simp
         refine wpAnyE_one (i := 16) (by kernel_rfl) rfl (fun K hK => ?_);refine step_append_own rfl _ _ 29 rfl w0.heap.size 113 i2 (.agg #[.int .i64 0, .int .i64 0, .int .i64 0]) 3 24 Tryz.underlying29 HI2.out.1 HI2.out.2.1 HI2.out.2.2.1 HI2.out.2.2.2 rfl (by decide) (.slice Ax C.v.length cx) _ _ rfl (HOd.out.alloc _) ⟨wd.heap.size, 0, none⟩ 1 1 [.int .i64 za, .int .i64 zb, .int .i64 zc] rfl rfl ?m1 ?m2 ?m3 ?m4 ?m5 ?_;case m1 => exact news_blk (heap_alloc_new wd (.cells #[.int .i64 za, .int .i64 zb, .int .i64 zc] 113))
         case m2 => intro u hu; simp at hu; rcases hu with rfl | rfl | rfl <;> rfl
         case m3 => unfold maxLen; omega
         case m4 => omega
         case m5 => have := HBd.out.size; simp; omega
         intro v5 w7 hown7 hgrow7;obtain ⟨A5, c5, rfl, _⟩ := row_slice hown7;have hal := below_alloc wd (.cells #[.int .i64 za, .int .i64 zb, .int .i64 zc] 113);have hbk := HCd.out.blk2 HOd.out (by decide) hgrow7;have hng : some b ≠ (Value.slice Ax C.v.length cx).ownBlock := row_block HOd.out HCd.out.blk (by decide);obtain ⟨cur, hcur⟩ := own_kind HXd.out.1 rfl;have hgz : some gz ≠ (Value.slice Ax C.v.length cx).ownBlock := row_block HOd.out hcur (by decide);have y0 := hgrow7.cell (cell_stays hal hS0.1) hng;have y1 := hgrow7.cell (cell_stays hal hS0.2.1) hgz;have y2 := hgrow7.cell (cell_stays hal hS0.2.2.1) hgz;have y3 := hgrow7.cell (cell_stays hal hS0.2.2.2) hgz;have xf : w7.frozen? ⟨b, 5, none⟩ = false := by simp [World.frozen?, hbk]
         have HSf := hid ((HSd.out.app HOd.out (by decide) (by decide) hgrow7).set (o := 5) hbk (.slice A5 (C.v.length + 1) c5));have HF := hid (HCd.out.pushV (m := ⟨za, zb, zc⟩) hown7 hgrow7);refine hK.out _ _ (fun _ => ⟨y0, y1, y2, y3⟩) (fun hH => ?_);have hHeld := hH (by decide);clear hH hK K y0 y1 y2 y3 hcur hng hgz hal hown7 hgrow7 hbk;try go_simp
         refine tkE 17 [18, 19] ?_;(try go_simp);refine tkE 18 [19] ?_;(try go_simp);refine wpAnyE_one (i := 19) (by kernel_rfl) rfl (fun K hK => ?_);go_simp;skip;refine hK.out _ _ (fun h => absurd rfl h) (fun _ => ?_);clear hK K;try go_simp
         refine wpAnyE_done (by kernel_rfl) ?_ _;clear hHeld hS0 xf HCd HBd HOd HXd;go_wp2_with fail;go_ret;exact RdPo.yes HQ.out HF.out HSf.out
       · have hz2 : ((Z.length : Int) != 3) = true := by simp; omega
         have HQ := hid (show readP C line.data.toList = none by rw [HRe.out, HQ0.out]; exact setP_m0 C hz3);clear hz3;go_wp2_with fail;go_ret;exact RdPo.no HQ.out HBw.out HSk.out
     have q5 : (hd.toList == [109, 111, 118, 101]) = false := by rw [HHd.out]; exact beq_eq_false_iff_ne.2 hw4
     have HN4 := hid hw4;clear hw4;by_cases hw5 : hd.data.toList = bSet
     · have q6 : (hd.toList == [115, 101, 116]) = true := by rw [HHd.out, hw5]; rfl
       have HQ := hid (show readP C line.data.toList = some { C with s := C.s ++ [Z] } by rw [HRe.out, hw5]; rfl);clear hw5;obtain ⟨SL, o1, o2, o3, o4⟩ := HC.out.s;obtain ⟨Ax, cx, rfl, _⟩ := row_slice o1;have HOw := hid o1;have HSl := hid (And.intro o2 o3);clear o1 o2 o3 o4;obtain ⟨d0, d1, d2, d3, d4, d5, d6, d7⟩ := HC.out.cells;go_wp2_with (at_builtin; refine wpList_append_own_at _ rfl _ _ 28 rfl w0.heap.size 27 i1 (.slice none 0 0) 1 24 Tryz.underlying28 HI1.out.1 HI1.out.2.1 HI1.out.2.2.1 HI1.out.2.2.2 rfl (by decide) (.slice Ax C.s.length cx) _ _ rfl (HOw.out.alloc _) ⟨wr.heap.size, 0, none⟩ 1 1 [.slice vo Z.length vc] rfl rfl ?s1 ?s2 ?s3 ?s4 ?s5 ?_);case s1 => intro j u hj; match j, hj with | 0, hj => simp at hj; subst hj; simp [Addr.add] | j + 1, hj => simp at hj
       case s2 => intro u hu; simp at hu; subst hu; rfl
       case s3 => unfold maxLen; omega
       case s4 => omega
       case s5 => have := HBw.out.size; simp; omega
       intro v' w7 hown hgrow _ hat;obtain ⟨Ay, cy, rfl, _⟩ := row_slice hown;have hbk := HC.out.blk2 HOw.out (by decide) hgrow;have f6 : w7.frozen? ⟨b, 6, none⟩ = false := by simp [World.frozen?, hbk]
       have g6 : w7.cell? ⟨b, 6, none⟩ = some (.slice Ax C.s.length cx) := by simp [World.cell?, hbk]
       have HSf := hid ((HSk.out.app HOw.out (by decide) (by decide) hgrow).set (o := 6) hbk (.slice Ay (C.s.length + 1) cy));have HF := hid (HC.out.pushS HOw.out HSl.out.1 HSl.out.2 HX.out hown hgrow (by simpa using hat));clear hown hgrow hat hbk d0 d1 d2 d3 d4 d5 d6 d7;go_wp2_with fail;go_ret;exact RdPo.yes HQ.out HF.out HSf.out
     have q6 : (hd.toList == [115, 101, 116]) = false := by rw [HHd.out]; exact beq_eq_false_iff_ne.2 hw5
     have HN5 := hid hw5;clear hw5;by_cases hw6 : hd.data.toList = bRow
     · have q7 : (hd.toList == [114, 111, 119]) = true := by rw [HHd.out, hw6]; rfl
       have HQ := hid (show readP C line.data.toList = some { C with x := C.x ++ [Z] } by rw [HRe.out, hw6]; rfl);clear hw6;obtain ⟨SL, o1, o2, o3, o4⟩ := HC.out.x;obtain ⟨Ax, cx, rfl, _⟩ := row_slice o1;have HOw := hid o1;have HSl := hid (And.intro o2 o3);clear o1 o2 o3 o4;obtain ⟨d0, d1, d2, d3, d4, d5, d6, d7⟩ := HC.out.cells;go_wp2_with (at_builtin; refine wpList_append_own_at _ rfl _ _ 28 rfl w0.heap.size 27 i1 (.slice none 0 0) 1 24 Tryz.underlying28 HI1.out.1 HI1.out.2.1 HI1.out.2.2.1 HI1.out.2.2.2 rfl (by decide) (.slice Ax C.x.length cx) _ _ rfl (HOw.out.alloc _) ⟨wr.heap.size, 0, none⟩ 1 1 [.slice vo Z.length vc] rfl rfl ?x1 ?x2 ?x3 ?x4 ?x5 ?_);case x1 => intro j u hj; match j, hj with | 0, hj => simp at hj; subst hj; simp [Addr.add] | j + 1, hj => simp at hj
       case x2 => intro u hu; simp at hu; subst hu; rfl
       case x3 => unfold maxLen; omega
       case x4 => omega
       case x5 => have := HBw.out.size; simp; omega
       intro v' w7 hown hgrow _ hat;obtain ⟨Ay, cy, rfl, _⟩ := row_slice hown;have hbk := HC.out.blk2 HOw.out (by decide) hgrow;have f7 : w7.frozen? ⟨b, 7, none⟩ = false := by simp [World.frozen?, hbk]
       have g7 : w7.cell? ⟨b, 7, none⟩ = some (.slice Ax C.x.length cx) := by simp [World.cell?, hbk]
       have HSf := hid ((HSk.out.app HOw.out (by decide) (by decide) hgrow).set (o := 7) hbk (.slice Ay (C.x.length + 1) cy));have HF := hid (HC.out.pushX HOw.out HSl.out.1 HSl.out.2 HX.out hown hgrow (by simpa using hat));clear hown hgrow hat hbk d0 d1 d2 d3 d4 d5 d6 d7;go_wp2_with fail;go_ret;exact RdPo.yes HQ.out HF.out HSf.out
     have q7 : (hd.toList == [114, 111, 119]) = false := by rw [HHd.out]; exact beq_eq_false_iff_ne.2 hw6
     have HN6 := hid hw6;clear hw6;have HQ := hid (show readP C line.data.toList = none by rw [HRe.out]; unfold setP; rw [if_neg HN0.out, if_neg HN1.out, if_neg HN2.out, if_neg HN3.out, if_neg HN4.out, if_neg HN5.out, if_neg HN6.out]);go_wp2_with fail;go_ret;exact RdPo.no HQ.out HBw.out HSk.out
end Go.Proofs.YtkhmngljpfibcaaGreatDoor
