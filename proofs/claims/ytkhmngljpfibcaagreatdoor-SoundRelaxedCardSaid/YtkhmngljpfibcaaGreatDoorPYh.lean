/- reach of reference 21: what a call returns. -/
import Derived.Test.YtkhmngljpfibcaaGreatDoorPUu
import Derived.Test.YtkhmngljpfibcaaGreatDoorPYf
namespace Go.Proofs.YtkhmngljpfibcaaGreatDoor
set_option maxRecDepth 100000
set_option maxHeartbeats 12800000
open Go.Lib (hid)
open Go.RowKit

structure RcI (N : Nt) (m p : Nat) (F : List Int) (i : Nat) : Prop where
 ok : plsOk F m
 rc : ∀ x : Nat, (x : Int) ∈ F → Rch N false p x
 st : (p : Int) ∈ F
 cl : ∀ j, j < i → ∀ x, F[j]? = some x → ∀ t ∈ N.tr, x ∈ t.i → ∀ o ∈ t.o, o ∈ F
def ClT (N : Nt) (F : List Int) (x : Int) (k : Nat) : Prop := ∀ t ∈ N.tr.take k, x ∈ t.i → ∀ o ∈ t.o, o ∈ F
def ClO (F l : List Int) (j : Nat) : Prop := ∀ o ∈ l.take j, o ∈ F
theorem RcI.start (N : Nt) (m p : Nat) (h : p < m) : RcI N m p [(p : Int)] 0 := by
 refine ⟨⟨fun x hx => ?_, by simp⟩, fun x hx => ?_, by simp, fun j hj => by omega⟩
 · have : x = (p : Int) := by simpa using hx
   omega
 · have : (x : Int) = (p : Int) := by simpa using hx
   have : x = p := by omega
   subst this; exact .start
theorem RcI.push {N : Nt} {m p : Nat} {F : List Int} {i : Nat} (h : RcI N m p F i) (hi : i ≤ F.length) {o : Int} (h0 : 0 ≤ o ∧ o < (m : Int)) (hn : o ∉ F) (hr : Rch N false p o.toNat) : RcI N m p (F ++ [o]) i := by
 refine ⟨⟨fun x hx => ?_, ?_⟩, fun x hx => ?_, List.mem_append_left _ h.st, fun j hj x hx t ht hti y hy => ?_⟩
 · rcases List.mem_append.1 hx with h1 | h1
   · exact h.ok.1 x h1
   · have : x = o := by simpa using h1
     rw [this]; exact h0
 · rw [List.nodup_append];exact ⟨h.ok.2, by simp, fun a ha b hb e => by
    have : b = o := by simpa using hb
    subst this; exact hn (e ▸ ha)⟩
 · rcases List.mem_append.1 hx with h1 | h1
   · exact h.rc x h1
   · have : (x : Int) = o := by simpa using h1
     have : x = o.toNat := by omega
     rw [this]; exact hr
 · rw [List.getElem?_append_left (by omega)] at hx;exact List.mem_append_left _ (h.cl j hj x hx t ht hti y hy)
theorem ClT.push {N : Nt} {F : List Int} {x : Int} {k : Nat} (h : ClT N F x k) (o : Int) : ClT N (F ++ [o]) x k := fun t ht hx y hy => List.mem_append_left _ (h t ht hx y hy)
theorem ClT.zero (N : Nt) (F : List Int) (x : Int) : ClT N F x 0 := fun t ht => by simp at ht
theorem ClT.no {N : Nt} {F : List Int} {x : Int} {k : Nat} (h : ClT N F x k) (hk : k < N.tr.length) (hx : x ∉ N.tr[k].i) : ClT N F x (k + 1) := fun t ht hti y hy => by
 rw [List.take_succ_eq_append_getElem hk] at ht;rcases List.mem_append.1 ht with h1 | h1
 · exact h t h1 hti y hy
 · have : t = N.tr[k] := by simpa using h1
   subst this; exact absurd hti hx
theorem ClT.yes {N : Nt} {F : List Int} {x : Int} {k : Nat} (h : ClT N F x k) (hk : k < N.tr.length) {l : List Int} (hl : N.tr[k].o = l) (ho : ClO F l l.length) : ClT N F x (k + 1) := fun t ht hti y hy => by
 rw [List.take_succ_eq_append_getElem hk] at ht;rcases List.mem_append.1 ht with h1 | h1
 · exact h t h1 hti y hy
 · have : t = N.tr[k] := by simpa using h1
   subst this;rw [hl] at hy;exact ho y (by rw [List.take_length]; exact hy)
theorem ClO.zero (F l : List Int) : ClO F l 0 := fun o ho => by simp at ho
theorem ClO.step {F l : List Int} {j : Nat} (h : ClO F l j) (hj : j < l.length) (ho : l[j] ∈ F) : ClO F l (j + 1) := fun o hm => by
 rw [List.take_succ_eq_append_getElem hj] at hm;rcases List.mem_append.1 hm with h1 | h1
 · exact h o h1
 · have : o = l[j] := by simpa using h1
   subst this; exact ho
theorem ClO.push {F l : List Int} {j : Nat} (h : ClO F l j) (o : Int) : ClO (F ++ [o]) l j := fun y hy => List.mem_append_left _ (h y hy)
theorem RcI.next {N : Nt} {m p : Nat} {F : List Int} {i : Nat} {x : Int} (h : RcI N m p F i) (hx : F[i]? = some x) (hc : ClT N F x N.tr.length) : RcI N m p F (i + 1) := by
 refine ⟨h.ok, h.rc, h.st, fun j hj y hy t ht hti o ho => ?_⟩;rcases Nat.lt_or_ge j i with h1 | h1
 · exact h.cl j h1 y hy t ht hti o ho
 · have : j = i := by omega
   subst this;rw [hx] at hy;cases hy;exact hc t (by rw [List.take_length]; exact ht) hti o ho
theorem RcI.done {N : Nt} {m p : Nat} {F : List Int} {i : Nat} (h : RcI N m p F i) (hi : F.length ≤ i) (x : Nat) : hasB F (x : Int) = true ↔ Rch N false p x := by
 have hb : hasB F (x : Int) = true ↔ (x : Int) ∈ F := by
  unfold hasB; rw [List.any_eq_true];exact ⟨fun ⟨y, hy, e⟩ => by have := of_decide_eq_true e; rw [← this]; exact hy, fun hm => ⟨_, hm, by simp⟩⟩
 rw [hb];clear hb;refine ⟨h.rc x, fun hr => ?_⟩
 induction hr with
 | start => exact h.st
 | step t x y ht hx _ hy ih =>
  obtain ⟨j, hj, e⟩ := List.getElem_of_mem ih;exact h.cl j (by omega) (x : Int) (by rw [List.getElem?_eq_getElem hj, e]) t ht hx _ hy
theorem NS.lit1 (w : World) (x : Int) : NS w (w.alloc (.cells #[.int .i64 x] 3)) (.slice (some ⟨w.heap.size, 0, none⟩) 1 1) [x] :=
 ⟨World.ownsRow_lit (base := w.heap.size) (e := 3) (size := 1) w #[.int .i64 x] 1 (Nat.le_refl _) (by unfold maxLen; omega) rfl, below_alloc w _⟩
def RhPo (N : Nt) (p : Nat) (w : World) (e : Ending) (w' : World) : Prop := ∃ v F, e = .returned v ∧ NS w w' v F ∧ F.length ≤ 40 ∧ ∀ x : Nat, hasB F (x : Int) = true ↔ Rch N false p x
theorem hasB_mem {F : List Int} {x : Int} : hasB F x = true ↔ x ∈ F := by
 unfold hasB; rw [List.any_eq_true];exact ⟨fun ⟨y, hy, e⟩ => by have := of_decide_eq_true e; rw [← this]; exact hy, fun hm => ⟨_, hm, by simp⟩⟩
theorem reach21_any (N : Nt) (A : Option Addr) (n c : Nat) (m p : Nat) (w : World) (h : TIn w A N.tr) (hn : N.tr.length = n) (hn60 : n ≤ 60) (hm : m ≤ 40) (hp : p < m) (hok : netOk N m) :
 Calls Tryz.prog 123 #[.agg #[.int .i64 N.pl, .slice A n c, .int .i64 N.src, .int .i64 N.snk], .int .i64 (p : Int)] w (RhPo N p w) := by
 have HB := hid (below_alloc w (.cells #[.int .i64 N.pl, .slice A n c, .int .i64 N.src, .int .i64 N.snk] 24));have HNb := hid (NB.new w N.pl A n c N.src N.snk);have HIn := hid (h.below HB.out);have HNl := hid hn;have HOk := hid hok;have hs0 : (w.alloc (.cells #[.int .i64 N.pl, .slice A n c, .int .i64 N.src, .int .i64 N.snk] 24)).heap.size = w.heap.size + 1 := by simp
 have hS := NS.lit1 (w.alloc (.cells #[.int .i64 N.pl, .slice A n c, .int .i64 N.src, .int .i64 N.snk] 24)) (p : Int);rw [hs0] at hS;have HR0 := hid (RcI.start N m p hp);obtain ⟨i0, hi, hz0, hz1, hz2⟩ := info_parts intInfo;have HI := hid (And.intro hi (And.intro hz0 (And.intro hz1 hz2)));clear h hn hok hp hi hz0 hz1 hz2;go_enter Tryz.func123, Tryz.ntmps123;go_wp2_with fail;generalize w.alloc _ = w0 at *;have HS0 := hid hS;clear hS hs0;go_loopg [6, 5] (m + 1) (fun g iv ov wr => ∃ (i : Nat) (F : List Int), i + g = m + 1 ∧ iv = .int .i64 (i : Int) ∧ NS w0 wr ov F ∧ RcI N m p F i ∧ i ≤ F.length);case atStart => exact ⟨0, _, by omega, rfl, HS0.out, HR0.out, by simp⟩
 case round =>
  clear HS0 HR0;obtain ⟨i, F, hig, rfl, hS, hR, hiF⟩ := hrel;have HG := hid hig;have HR := hid hR;have HFm := hid (pls_len hR.ok);have hF40 : F.length ≤ 40 := by have := HFm.out; omega
  have hF0 : 0 < F.length := List.length_pos_of_mem hR.st;obtain ⟨gb, cap, rfl, hgb, hgl⟩ := hS.row hF0;have HS := hid hS;clear hig hR hS;by_cases hlt : i < F.length
  · have HX := hid (List.getElem?_eq_getElem hlt);have HXm := hid (List.getElem_mem hlt);generalize F[i] = x at *;obtain ⟨go1, rfl⟩ : ∃ go1, go1 = gk := ⟨_, rfl⟩;go_wp2_with fail;go_loopg [7, 5] (n) (fun g kv ov wr => ∃ (k : Nat) (G : List Int), k + g = n ∧ kv = .int .i64 (k : Int) ∧ NS w0 wr ov G ∧ RcI N m p G i ∧ i < G.length ∧ G[i]? = some x ∧ ClT N G x k);case atStart => exact ⟨0, F, by omega, rfl, HS.out, HR.out, hlt, HX.out, ClT.zero N F x⟩
    case round =>
     clear HS HR HX HXm HFm hF40 hF0 hgb hgl hlt hiF;obtain ⟨k, G, hk, rfl, hS, hR, hiG, hx, hc⟩ := hrel;have HK := hid hk;have HR := hid hR;have HX := hid hx;have HC := hid hc;have HGm := hid (pls_len hR.ok);have hG40 : G.length ≤ 40 := by have := HGm.out; omega
     have hkn : k ≤ n := by omega
     obtain ⟨gb, cap, rfl, hgb, hgl⟩ := hS.row (by omega);have HS := hid hS;obtain ⟨b0, b1, b2, b3⟩ := (HNb.out.below hS.2).cells;have hxe : G[i] = x := by rw [List.getElem?_eq_getElem hiG] at hx; injection hx
     have r0 : wr.cell? ⟨gb, i, none⟩ = some (.int .i64 x) := by rw [← hxe]; exact (hS.cells i hiG).1
     clear hk hS hR hx hc hxe;by_cases hlk : k < n
     · have hkt : k < N.tr.length := by rw [HNl.out]; exact hlk
       obtain ⟨ad, rfl, hpa, _, ⟨u1, q1', s1⟩, u2, q2', s2⟩ := HIn.out k hkt;obtain ⟨Ai, ni, ci, rfl, zi, hi1, hi2, hi3⟩ := s1;obtain ⟨Ao, no, co, rfl, zo, ho1, ho2, ho3⟩ := s2;have q1 := cell_stays HS.out.2 q1';have HOt := hid (trOk_mem HOk.out (List.getElem_mem hkt));have HTm := hid (List.getElem_mem hkt);have hli : ni ≤ 1000 := by have := pls_len HOt.out.1; omega
       have hlo : no ≤ 1000 := by have := pls_len HOt.out.2; omega
       have HHa := hid (fun d os => has21_any Ai ni ci N.tr[k].i x _ ((zi.below HS.out.2).below (below_regrown wr d os)) hi1 (by omega));have HZo := hid zo;have HOl := hid ho1;have HQ2 := hid q2';have HCno := hid (fun hh => HC.out.no hkt hh);have HCye := hid (fun (G' : List Int) (hG : ClT N G' x k) (l : List Int) hl ho => hG.yes hkt (l := l) hl ho);have HOe := hid (show N.tr[k].o = N.tr[k].o from rfl);have hk0 : (0 : Int) ≤ (k : Int) := by omega
       have hk1 : (k : Int) < (n : Int) := by omega
       have hi0' : (0 : Int) ≤ (i : Int) := by omega
       have hi1' : (i : Int) < (G.length : Int) := by omega
       clear zi zo hi1 ho1 q1' q2';go_wp2_with fail;have a0 := fun d os => cell_regrown b1 d os
       have a1 := fun d os => cell_regrown q1 d os
       have a2 := fun d os => cell_regrown r0 d os
       cases hh : hasB N.tr[k].i x with
       | false =>
        rw [hh] at HHa;have HCn := hid (HCno.out (fun hm => by rw [hasB_mem.2 hm] at hh; cases hh));clear hh HCno HCye;refine wp_region_quiet_below (by kernel_rfl) (by kernel_rfl) ?_;repeat (quiet_step (exact Calls.regrown_of (HHa.out _ _)))
        refine wpQuiet_nil ?_;intro _ hw';obtain ⟨⟨dq, osq⟩, hw''⟩ := hw';subst hw'';have HS2 := hid (HS.out.below (below_regrown wr dq osq));clear a0 a1 a2 b0 b1 b2 b3 q1 r0 HS HHa;go_wp2_with fail;go_roundg (gk - 1);case measure => have := HK.out; omega
        case rel => exact ⟨k + 1, G, by have := HK.out; omega, by go_num, HS2.out, HR.out, hiG, HX.out, HCn.out⟩
       | true =>
        rw [hh] at HHa;have HXi := hid (hasB_mem.1 hh);clear hh HCno;refine wp_region_quiet_below (by kernel_rfl) (by kernel_rfl) ?_;repeat (quiet_step (exact Calls.regrown_of (HHa.out _ _)))
        refine wpQuiet_nil ?_;intro _ hw';obtain ⟨⟨dq, osq⟩, hw''⟩ := hw';subst hw'';have HS2 := hid (HS.out.below (below_regrown wr dq osq));clear a0 a1 a2 b0 b1 b2 b3 q1 r0 HS HHa;generalize Sort.grow (redrawn wr dq) osq = w5 at *;obtain ⟨go2, rfl⟩ : ∃ go2, go2 = gk := ⟨_, rfl⟩;go_wp2_with fail;go_loopg [8, 5] (no) (fun g jv ov wr => ∃ (j : Nat) (G : List Int), j + g = no ∧ jv = .int .i64 (j : Int) ∧ NS w0 wr ov G ∧ RcI N m p G i ∧ i < G.length ∧ G[i]? = some x ∧ ClT N G x k ∧ ClO G N.tr[k].o j);case atStart => exact ⟨0, G, by omega, rfl, HS2.out, HR.out, hiG, HX.out, HC.out, ClO.zero _ _⟩
        case round =>
         clear HS2 HR HX HC HGm hG40 hgb hgl hiG hi1';obtain ⟨j, G, hj, rfl, hS, hR, hiG, hx, hc, ho⟩ := hrel;have HJ := hid hj;have HR := hid hR;have HX := hid hx;have HC := hid hc;have HO := hid ho;have HGm := hid (pls_len hR.ok);have hG40 : G.length ≤ 40 := by have := HGm.out; omega
         have hjn : j ≤ no := by omega
         obtain ⟨gb, cap, rfl, hgb, hgl⟩ := hS.row (by omega);have HS := hid hS;obtain ⟨b0, b1, b2, b3⟩ := (HNb.out.below hS.2).cells;have q2 := cell_stays hS.2 HQ2.out;have HZr := hid (HZo.out.below hS.2);have HGz := hid (show ZIn wr (some ⟨gb, 0, none⟩) G by obtain ⟨A', c', e, hz, _⟩ := hS.zin; cases e; exact hz);clear hj hS hR hx hc ho;by_cases hlj : j < no
         · have hjo : j < N.tr[k].o.length := by rw [HOl.out]; exact hlj
           obtain ⟨ao, rfl, hpo, o0⟩ := HZr.out j hjo;have HOs := hid (fun (G' : List Int) (hG : ClO G' N.tr[k].o j) hm => hG.step hjo hm);have HOr := hid (HOt.out.2.1 _ (List.getElem_mem hjo));have HOm := hid (List.getElem_mem hjo);generalize N.tr[k].o[j] = o at *;have HHo := hid (has21_any (some ⟨gb, 0, none⟩) G.length cap G o wr HGz.out rfl (by omega));clear hjo;cases hh : hasB G o with
           | true =>
            rw [hh] at HHo;have HOn := hid (HOs.out G HO.out (hasB_mem.1 hh));clear hh HOs;go_wp2_with fail;((with_reducible refine HHo.out.mono ?_); rintro e w7 ⟨rfl, hb7⟩)
            have HS7 := hid (HS.out.below hb7);clear hb7 HHo b0 b1 b2 b3 q2 o0 HS;go_wp2_with fail;go_roundg (gk - 1);case measure => have := HJ.out; omega
            case rel => exact ⟨j + 1, G, by have := HJ.out; omega, by go_num, HS7.out, HR.out, hiG, HX.out, HC.out, HOn.out⟩
           | false =>
            rw [hh] at HHo;have HNm := hid (show o ∉ G from fun hm => by rw [hasB_mem.2 hm] at hh; cases hh);clear hh;go_wp2_with fail;((with_reducible refine HHo.out.mono ?_); rintro e w7 ⟨rfl, hb7⟩)
            obtain ⟨b0', b1', b2', b3'⟩ := (HNb.out.below (HS.out.below hb7).2).cells;have q2' := cell_stays hb7 q2;have o0' := cell_stays hb7 o0;replace HS := hid (HS.out.below hb7);clear hb7 HHo b0 b1 b2 b3 q2 o0 HGz;go_wp2_with (at_builtin; refine wpList_append_own _ rfl _ _ 27 rfl w0.heap.size 3 i0 (.int .i64 0) 1 8 Tryz.underlying27 HI.out.1 HI.out.2.1 HI.out.2.2.1 HI.out.2.2.2 rfl (by decide) (.slice (some ⟨gb, 0, none⟩) G.length cap) _ _ rfl (HS.out.1.alloc _) ⟨w7.heap.size, 0, none⟩ 1 1 [.int .i64 o] rfl rfl ?c1 ?c2 ?c3 ?c4 ?c5 ?_);case c1 => intro j u hj; match j, hj with | 0, hj => simp at hj; subst hj; simp [Addr.add] | j + 1, hj => simp at hj
            case c2 => intro u hu; simp at hu; subst hu; rfl
            case c3 => unfold maxLen; omega
            case c4 => omega
            case c5 => have := HS.out.size; simp; omega
            intro v8 w8 hown8 hgrow8 _;replace HS := hid (HS.out.push hown8 hgrow8);clear hown8 hgrow8 b0' b1' b2' b3' q2' o0';have HR2 := hid (HR.out.push (by omega) HOr.out HNm.out (Rch.step N.tr[k] x.toNat o.toNat HTm.out (by
             have h1 := HR.out.ok.1 x (List.mem_of_getElem? HX.out);rw [Int.toNat_of_nonneg h1.1]; exact HXi.out) (HR.out.rc x.toNat (by
             have h1 := HR.out.ok.1 x (List.mem_of_getElem? HX.out);rw [Int.toNat_of_nonneg h1.1]; exact List.mem_of_getElem? HX.out)) (by rw [Int.toNat_of_nonneg HOr.out.1]; exact HOm.out)))
            have HX2 := hid (show (G ++ [o])[i]? = some x by rw [List.getElem?_append_left hiG]; exact HX.out);have HOn := hid (HOs.out (G ++ [o]) (HO.out.push o) (by simp));go_wp2_with fail;go_roundg (gk - 1);case measure => have := HJ.out; omega
            case rel => exact ⟨j + 1, G ++ [o], by have := HJ.out; omega, by go_num, HS.out, HR2.out, by simp; omega, HX2.out, HC.out.push o, HOn.out⟩
         · have HCn := hid (HCye.out G HC.out N.tr[k].o rfl (by
            have h1 := HO.out;rwa [show j = N.tr[k].o.length by rw [HOl.out]; omega] at h1))
           go_wp2_with fail;go_roundg (go2 - 1);case measure => have := HK.out; omega
           case rel => exact ⟨k + 1, G, by have := HK.out; omega, by go_num, HS.out, HR.out, hiG, HX.out, HCn.out⟩
     · have HRn := hid (HR.out.next HX.out (by rw [HNl.out]; have h1 := HC.out; rwa [show k = n by omega] at h1));clear r0;go_wp2_with fail;go_roundg (go1 - 1);case measure => have := HG.out; have := HGm.out; omega
       case rel => exact ⟨i + 1, G, by have := HG.out; have := HGm.out; omega, by go_num, HS.out, HRn.out, by omega⟩
  · have HD := hid (fun x => HR.out.done (by omega) x);go_wp2_with fail;go_ret;exact ⟨_, F, rfl, NS.up HB.out HS.out, hF40, HD.out⟩
end Go.Proofs.YtkhmngljpfibcaaGreatDoor
