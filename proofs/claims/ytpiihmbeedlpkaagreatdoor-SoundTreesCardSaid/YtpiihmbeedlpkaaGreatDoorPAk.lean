/- space.Explore: what a call returns. -/
import Derived.Test.YtpiihmbeedlpkaaGreatDoorPUu
import Derived.Test.YtpiihmbeedlpkaaGreatDoorPAj
import Derived.Test.YtpiihmbeedlpkaaGreatDoorPBe
import Derived.Test.YtpiihmbeedlpkaaGreatDoorPHc
import Derived.Test.YtpiihmbeedlpkaaGreatDoorPCp
import Derived.Test.YtpiihmbeedlpkaaGreatDoorPHf
namespace Go.Proofs.YtpiihmbeedlpkaaGreatDoor
set_option maxRecDepth 100000
set_option maxHeartbeats 25600000
open Go.Lib (hid)
open Go.RowKit

def contE (N : Nt) (most i : Nat) (E : ExS) : Option ExS := exFrom N most (most + 1 - i) i E
theorem exT_cont (N : Nt) (m : List Int) (most : Nat) : exT N m most = contE N most 0 ⟨[m], [], true⟩ := rfl
theorem contE_end {N : Nt} {most i : Nat} {E : ExS} (h : E.SL.length ≤ i) (hi : i ≤ most) : contE N most i E = some E := by
 unfold contE;obtain ⟨f, hf⟩ : ∃ f, most + 1 - i = f + 1 := ⟨most - i, by omega⟩;rw [hf, exFrom, List.getElem?_eq_none h]
theorem contE_step {N : Nt} {most i : Nat} {E : ExS} {m : List Int} (h : E.SL[i]? = some m) (hi : i ≤ most) : contE N most i E = (exTo N most i m N.tr.length E).bind (contE N most (i + 1)) := by
 unfold contE;obtain ⟨f, hf⟩ : ∃ f, most + 1 - i = f + 1 := ⟨most - i, by omega⟩;rw [hf, exFrom, h, show most + 1 - (i + 1) = f by omega]
theorem exOne_no {N : Nt} {most i k : Nat} {m : List Int} {E : ExS} (h : canAt N m k = false) : exOne N most i m k E = some E := by
 unfold canAt at h;unfold exOne;cases hk : N.tr[k]? with
 | none => rfl
 | some t => rw [hk] at h; simp only at h; simp [h]
theorem en_pre (N : Nt) (m : List Int) (k j : Nat) (h : k ≤ j) : ∃ R, enTo N m j = enTo N m k ++ R := by
 induction j with
 | zero => exact ⟨[], by rw [show k = 0 by omega]; simp⟩
 | succ j ih =>
  by_cases e : k = j + 1
  · exact ⟨[], by rw [e]; simp⟩
  · obtain ⟨R, hR⟩ := ih (by omega);cases hc : canAt N m j with
    | true => exact ⟨R ++ [(j : Int)], by rw [en_yes _ _ _ hc, hR, List.append_assoc]⟩
    | false => exact ⟨R, by rw [en_no _ _ _ hc, hR]⟩
theorem en_next {N : Nt} {most i : Nat} {m : List Int} {E0 E : ExS} : ∀ (f k j : Nat), k + f = N.tr.length → exTo N most i m k E0 = some E → (enTo N m k).length = j → (hj : j < (enTo N m N.tr.length).length) →
 ∃ t : Nat, t < N.tr.length ∧ (enTo N m N.tr.length)[j] = (t : Int) ∧ canAt N m t = true ∧ exTo N most i m t E0 = some E ∧ (enTo N m t).length = j := by
 intro f
 induction f with
 | zero => intro k j hk _ hl hj; rw [show k = N.tr.length by omega] at hl; omega
 | succ f ih =>
  intro k j hk he hl hj;cases hc : canAt N m k with
  | true =>
   refine ⟨k, by omega, ?_, hc, he, hl⟩;obtain ⟨R, hR⟩ := en_pre N m (k + 1) N.tr.length (by omega);rw [en_yes _ _ _ hc] at hR;have : (enTo N m N.tr.length)[j]? = some (k : Int) := by
    rw [hR, List.getElem?_append_left (by simp; omega), List.getElem?_append_right (by omega), hl]; simp
   rw [List.getElem?_eq_getElem hj] at this;exact Option.some.inj this
  | false =>
   exact ih (k + 1) j (by omega) (by rw [exTo, he]; exact exOne_no hc) (by rw [en_no _ _ _ hc]; exact hl) hj
theorem en_done {N : Nt} {most i : Nat} {m : List Int} {E0 E : ExS} : ∀ (f k : Nat), k + f = N.tr.length → exTo N most i m k E0 = some E → (enTo N m k).length = (enTo N m N.tr.length).length → exTo N most i m N.tr.length E0 = some E := by
 intro f
 induction f with
 | zero => intro k hk he _; rw [show k = N.tr.length by omega] at he; exact he
 | succ f ih =>
  intro k hk he hl;cases hc : canAt N m k with
  | true =>
   obtain ⟨R, hR⟩ := en_pre N m (k + 1) N.tr.length (by omega);rw [en_yes _ _ _ hc] at hR;rw [hR] at hl;simp at hl
  | false => exact ih (k + 1) (by omega) (by rw [exTo, he]; exact exOne_no hc) (by rw [en_no _ _ _ hc]; exact hl)
theorem own_app {wr w' : World} {b1 k1 n1 b k n : Nat} {e1 e : TypeId} {v x : Value} {xs1 xs : List Value} {o : Obj} (h : wr.ownsRow b1 e1 k1 v n1 xs1) (hr : wr.ownsRow b e k x n xs) (hne : e1 ≠ e) (hg : (wr.alloc o).grownBy w' x.ownBlock) : w'.ownsRow b1 e1 k1 v n1 xs1 :=
 (h.alloc o).kept hg (own_apart (h.alloc o) (hr.alloc o) hne)
theorem NS.app {w0 wr w' : World} {v x : Value} {L : List Int} {b k n : Nat} {e : TypeId} {xs : List Value} {o : Obj} (h : NS w0 wr v L) (hr : wr.ownsRow b e k x n xs) (hne : 3 ≠ e) (hg : (wr.alloc o).grownBy w' x.ownBlock) (hbase : w0.heap.size ≤ b) : NS w0 w' v L :=
 ⟨own_app h.1 hr hne hg, (h.2.alloc h.2.size o).grown hg (by have := h.2.size; simp; omega) (fun k hk => Nat.le_trans hbase (hr.lt k hk).1)⟩
theorem KS.app {wr w' : World} {mb : Nat} {L : List (List Int)} {x : Value} {b k n : Nat} {e : TypeId} {xs : List Value} {o : Obj} (h : KS wr mb L) (hr : wr.ownsRow b e k x n xs) (hg : (wr.alloc o).grownBy w' x.ownBlock) : KS w' mb L := by
 have h' := h.below (below_alloc wr o);refine h'.grown hg (fun e9 => ?_);obtain ⟨_, _, ⟨es, cl, hm, _⟩, _⟩ := h';rcases own_nomap (hr.alloc o) hm with h1 | h1
 · rw [h1] at e9; cases e9
 · exact h1 e9.symm
theorem KS.nocell {w : World} {mb b : Nat} {L : List (List Int)} {cs : Array Value} {T : TypeId} (h : KS w mb L) (hb : w.heap[b]? = some (.cells cs T (0, 0))) : mb ≠ b := by
 rintro rfl;obtain ⟨_, _, ⟨es, cl, hm, _⟩, _⟩ := h;rw [hm] at hb; cases hb
structure EX (w0 wr : World) (sb mb : Nat) (vS vM : Value) (E : ExS) : Prop where
 sp : SpB wr sb vS vM E.fl
 ks : KS wr mb E.SL
 ol : OLL w0 wr vS E.SL
 om : OMv w0 wr vM E.MV
 sbl : w0.heap.size ≤ sb
 mbl : w0.heap.size ≤ mb
section
variable {w0 wr w' w2 w5 : World} {sb mb : Nat} {vS vM v5 : Value} {E : ExS}
theorem EX.below (h : EX w0 wr sb mb vS vM E) (hb : Below wr.heap.size wr w') : EX w0 w' sb mb vS vM E :=
 ⟨h.sp.below hb, h.ks.below hb, h.ol.below hb, h.om.below hb, h.sbl, h.mbl⟩
theorem EX.mark (h : EX w0 wr sb mb vS vM E) : EX w0 (wr.setCell ⟨sb, 2, none⟩ (.bool false)) sb mb vS vM ⟨E.SL, E.MV, false⟩ ∧ ∀ v L, NS w0 wr v L → NS w0 (wr.setCell ⟨sb, 2, none⟩ (.bool false)) v L :=
 ⟨⟨h.sp.set2 false, h.ks.grown (Lib.grownBy_setB (grown_refl wr (some sb)) 2 _) (fun e => h.ks.nocell h.sp (Option.some.inj e)), h.ol.box h.sp (by decide) (by decide) h.sbl _, h.om.box h.sp (by decide) h.sbl _, h.sbl, h.mbl⟩, fun v L hn => ns_box hn h.sp (by decide) h.sbl _⟩
theorem EX.stored (h : EX w0 wr sb mb vS vM E) (hg : wr.grownBy w2 (some mb)) : SpB w2 sb vS vM E.fl ∧ OLL w0 w2 vS E.SL ∧ OMv w0 w2 vM E.MV ∧ ∀ v L, NS w0 wr v L → NS w0 w2 v L := by
 have hne := h.ks.nocell h.sp;obtain ⟨_, _, ⟨es, cl, hm, _⟩, _⟩ := h.ks;have h5 : ∀ k, some mb = some k → w0.heap.size ≤ k := fun k e => by cases e; exact h.mbl
 have hns : ∀ v L, NS w0 wr v L → NS w0 w2 v L := fun v L hn => hn.kept hg (own_nomap hn.1 hm) h5
 refine ⟨h.sp.grown hg (fun e => hne (Option.some.inj e).symm), ?_, ⟨h.om.1.kept hg (own_nomap h.om.1 hm), h.om.2.grown hg h.om.2.size h5⟩, hns⟩;obtain ⟨SL, a1, a2, a3, a4⟩ := h.ol;exact ⟨SL, a1.kept hg (own_nomap a1 hm), a2, fun k u s hk hs => hns _ _ (a3 k u s hk hs), a4.grown hg a4.size h5⟩
theorem EX.pushS {s : List Int} {u : Value} {o : Obj} {SL : List Value} (hsp : SpB w2 sb vS vM E.fl) (hks : KS w2 mb (E.SL ++ [s])) (hom : OMv w0 w2 vM E.MV) (hs : w0.heap.size ≤ sb) (hm : w0.heap.size ≤ mb)
 (h1 : w2.ownsRow w0.heap.size 34 1 vS E.SL.length SL) (h2 : SL.length = E.SL.length) (h3 : ∀ (k : Nat) (u : Value) (s : List Int), SL[k]? = some u → E.SL[k]? = some s → NS w0 w2 u s) (h4 : Below w0.heap.size w0 w2)
 (hu : NS w0 w2 u s) (ho : w5.ownsRow w0.heap.size 34 1 v5 (E.SL.length + 1) (SL ++ [u])) (hg : (w2.alloc o).grownBy w5 vS.ownBlock) :
 SpB w5 sb vS vM E.fl ∧ EX w0 (w5.setCell ⟨sb, 0, none⟩ v5) sb mb v5 vM ⟨E.SL ++ [s], E.MV, E.fl⟩ ∧ ∀ v L, NS w0 w2 v L → NS w0 (w5.setCell ⟨sb, 0, none⟩ v5) v L := by
 have hsp5 : SpB w5 sb vS vM E.fl := (hsp.below (below_alloc w2 o)).grown hg (row_block (h1.alloc o) (hsp.below (below_alloc w2 o)) (by decide));have hks5 := hks.app h1 hg;refine ⟨hsp5, ⟨hsp5.set0 v5, hks5.grown (Lib.grownBy_setB (grown_refl w5 (some sb)) 0 _) (fun e => hks5.nocell hsp5 (Option.some.inj e)), (OLL.push h1 h2 h3 h4 hu ho hg).box hsp5 (by decide) (by decide) hs _, (hom.app h1 (by decide) hg (Nat.le_refl _)).box hsp5 (by decide) hs _, hs, hm⟩, fun v L hn => ns_box (hn.app h1 (by decide) hg (Nat.le_refl _)) hsp5 (by decide) hs _⟩
theorem EX.pushM {x : Mv} {o : Obj} (h : EX w0 wr sb mb vS vM E) (ho : w5.ownsRow w0.heap.size 71 3 v5 (E.MV.length + 1) (E.MV.flatMap mvC ++ mvC x)) (hg : (wr.alloc o).grownBy w5 vM.ownBlock) :
 SpB w5 sb vS vM E.fl ∧ EX w0 (w5.setCell ⟨sb, 1, none⟩ v5) sb mb vS v5 ⟨E.SL, E.MV ++ [x], E.fl⟩ ∧ ∀ v L, NS w0 wr v L → NS w0 (w5.setCell ⟨sb, 1, none⟩ v5) v L := by
 have h1 := h.om.1;have hsp5 : SpB w5 sb vS vM E.fl := (h.sp.below (below_alloc wr o)).grown hg (row_block (h1.alloc o) (h.sp.below (below_alloc wr o)) (by decide));have hks5 := h.ks.app h1 hg;refine ⟨hsp5, ⟨hsp5.set1 v5, hks5.grown (Lib.grownBy_setB (grown_refl w5 (some sb)) 1 _) (fun e => hks5.nocell hsp5 (Option.some.inj e)), (h.ol.app h1 (by decide) (by decide) hg).box hsp5 (by decide) (by decide) h.sbl _, (OMv.push h.om ho hg).box hsp5 (by decide) h.sbl _, h.sbl, h.mbl⟩, fun v L hn => ns_box (hn.app h1 (by decide) hg (Nat.le_refl _)) hsp5 (by decide) h.sbl _⟩
end
def ExPo (R : Option ExS) (w : World) (e : Ending) (w' : World) : Prop := Below w.heap.size w w' ∧ match R with
 | none => e = .returned (.tuple #[.agg #[.slice none 0 0, .slice none 0 0, .bool false], .int .i64 13])
 | some E => ∃ vS vM, e = .returned (.tuple #[.agg #[vS, vM, .bool E.fl], .int .i64 0]) ∧ OLL w w' vS E.SL ∧ OMv w w' vM E.MV
theorem exIdx_eq {SL : List (List Int)} {y : List Int} (hn : ∀ (a b : Nat) (s : List Int), SL[a]? = some s → SL[b]? = some s → a = b) {k : Nat} (h : SL[k]? = some y) : exIdx SL y = k := by
 have hl : exIdx SL y < SL.length := List.findIdx_lt_length_of_exists ⟨y, List.mem_of_getElem? h, by simp⟩;exact hn _ _ y (exIdx_at hl) h
theorem exIdx_out {SL : List (List Int)} {y : List Int} (h : y ∉ SL) : ¬ exIdx SL y < SL.length := fun hl => h (List.mem_of_getElem? (exIdx_at hl))
theorem exOne_big {N : Nt} {most i k : Nat} {m : List Int} {E : ExS} {t : Tr} (hk : N.tr[k]? = some t) (hc : canT t m = true) (hb : bigM (fireT t m) = true) : exOne N most i m k E = some ⟨E.SL, E.MV, false⟩ := by
 unfold exOne; rw [hk]; simp [hc, hb]
theorem exOne_old {N : Nt} {most i k : Nat} {m : List Int} {E : ExS} {t : Tr} (hk : N.tr[k]? = some t) (hc : canT t m = true) (hb : bigM (fireT t m) = false) (hx : exIdx E.SL (fireT t m) < E.SL.length) : exOne N most i m k E = if 20000 ≤ E.MV.length then none else some ⟨E.SL, E.MV ++ [⟨(i : Int), ((exIdx E.SL (fireT t m) : Nat) : Int), (k : Int)⟩], E.fl⟩ := by
 unfold exOne; rw [hk]; simp only [hc, hb, hx, if_true]; simp
theorem exOne_new {N : Nt} {most i k : Nat} {m : List Int} {E : ExS} {t : Tr} (hk : N.tr[k]? = some t) (hc : canT t m = true) (hb : bigM (fireT t m) = false) (hx : ¬ exIdx E.SL (fireT t m) < E.SL.length) (hl : E.SL.length < most) : exOne N most i m k E = if 20000 ≤ E.MV.length then none else some ⟨E.SL ++ [fireT t m], E.MV ++ [⟨(i : Int), ((E.SL.length : Nat) : Int), (k : Int)⟩], E.fl⟩ := by
 unfold exOne; rw [hk]; simp only [hc, hb, if_true, hl]; simp [hx]
theorem exOne_full {N : Nt} {most i k : Nat} {m : List Int} {E : ExS} {t : Tr} (hk : N.tr[k]? = some t) (hc : canT t m = true) (hb : bigM (fireT t m) = false) (hx : ¬ exIdx E.SL (fireT t m) < E.SL.length) (hl : ¬ E.SL.length < most) : exOne N most i m k E = some ⟨E.SL, E.MV, false⟩ := by
 unfold exOne; rw [hk]; simp only [hc, hb, if_true, hl]; simp [hx]
theorem mk_okB {N : Nt} {M : List Int} (h : mkB N M = true) : okB M := ⟨mk_nums h, by have h1 := mk_len h; have h2 := nt_small (mk_nt h); omega⟩
def XOut (N : Nt) (M : List Int) (most : Nat) (R : Option ExS) (w0 : World) (sb mb g : Nat) (iv : Value) (wr : World) : Prop :=
 ∃ (i : Nat) (E : ExS) (vS vM : Value), i + g = most + 1 ∧ iv = .int .i64 (i : Int) ∧ EX w0 wr sb mb vS vM E ∧ EInv N M most i 0 E ∧ i ≤ E.SL.length ∧ R = contE N most i E ∧ E.MV.length ≤ 20000
def XIn (N : Nt) (most i : Nat) (m : List Int) (E0 : ExS) (w0 : World) (sb mb no : Nat) (Ao : Option Addr) (co g : Nat) (jv : Value) (wr : World) : Prop :=
 ∃ (j k : Nat) (E : ExS) (vS vM : Value), j + g = no ∧ jv = .int .i64 (j : Int) ∧ EX w0 wr sb mb vS vM E ∧ k ≤ N.tr.length ∧ exTo N most i m k E0 = some E ∧ (enTo N m k).length = j ∧ NS w0 wr (.slice Ao no co) (enTo N m N.tr.length) ∧ E.MV.length ≤ 20000
theorem fire_mk2 {N : Nt} {m : List Int} {k : Nat} {t : Tr} (hmk : mkB N m = true) (hg : N.tr[k]? = some t) (hc : canT t m = true) (hb : bigM (fireT t m) = false) : mkB N (fireT t m) = true := by
 have hfv := fire_at (f := 0) hg hc hb;have h3 := fire_mk (t := (k : Int)) hmk (by rw [hfv]);rw [hfv] at h3; exact h3
theorem fire_big {N : Nt} {k : Nat} {tr : Tr} {s : List Int} (hk : N.tr[k]? = some tr) (hc : canT tr s = true) (hb : bigM (fireT tr s) = true) : fireV N s (k : Int) = ([], 5) := by
 unfold fireV; rw [if_neg (by omega), Int.toNat_natCast, hk]; simp [hc, hb]
theorem KS.yes {w : World} {mb : Nat} {L : List (List Int)} (h : KS w mb L) {z : List Int} (hz : okB z) (c0 : Int) (hc0 : ∀ k : Nat, L[k]? = some z → c0 = k) (hin : z ∈ L) :
 (Instr.lookup 115 (.map (some mb)) (.string ⟨(skL z).toArray⟩) true).run Tryz.prog w = .ok (.tuple #[.int .i64 c0, .bool true]) w := by
 have h1 := h.look hz c0 hc0 (fun h9 => absurd hin h9);rw [h1]; simp [hin]
theorem KS.no {w : World} {mb : Nat} {L : List (List Int)} (h : KS w mb L) {z : List Int} (hz : okB z) (hin : z ∉ L) :
 (Instr.lookup 115 (.map (some mb)) (.string ⟨(skL z).toArray⟩) true).run Tryz.prog w = .ok (.tuple #[.int .i64 0, .bool false]) w := by
 have h1 := h.look hz 0 (fun k9 hk9 => absurd (List.mem_of_getElem? hk9) hin) (fun _ => rfl);rw [h1]; simp [hin]
theorem exTo_none {N : Nt} {most i : Nat} {m : List Int} {E0 : ExS} {k : Nat} (h : exTo N most i m k E0 = none) : ∀ l : Nat, k ≤ l → exTo N most i m l E0 = none := by
 intro l hl
 induction l with
 | zero => rw [show k = 0 by omega] at h; exact h
 | succ l ih =>
  by_cases e : k = l + 1
  · rw [← e]; exact h
  · rw [exTo, ih (by omega)]; rfl
theorem ns_zin2 {w0 w : World} {A : Option Addr} {n c : Nat} {L : List Int} (h : NS w0 w (.slice A n c) L) : ZIn w A L := by
 obtain ⟨A', c', e, hz, _⟩ := h.zin;cases e; exact hz
theorem oll_one {w0 w : World} {A : Option Addr} {c : Nat} {M : List Int} (h : NS w0 w (.slice A M.length c) M) : OLL w0 (w.alloc (.cells #[.slice A M.length c] 34)) (.slice (some ⟨w.heap.size, 0, none⟩) 1 1) [M] := by
 refine ⟨[.slice A M.length c], World.ownsRow_lit (base := w0.heap.size) (e := 34) (size := 1) w #[.slice A M.length c] 1 h.size (by unfold maxLen; omega) rfl, rfl, fun k u s hk hs => ?_, below_then h.2 (below_alloc w _)⟩
 match k, hk, hs with
 | 0, hk, hs => cases hk; cases hs; exact h.below (below_alloc w _)
 | k + 1, hk, _ => simp at hk
theorem ks_stored {w0 wr w2 : World} {sb mb : Nat} {vS vM : Value} {fl : Bool} {L0 SL : List (List Int)} (hsp : SpB wr sb vS vM fl) (hks : KS wr mb L0) (hol : OLL w0 wr vS SL) (hg : wr.grownBy w2 (some mb)) (hmb : w0.heap.size ≤ mb) : SpB w2 sb vS vM fl ∧ OLL w0 w2 vS SL := by
 have hne := hks.nocell hsp;obtain ⟨_, _, ⟨es, cl, hm, _⟩, _⟩ := hks;have h5 : ∀ k, some mb = some k → w0.heap.size ≤ k := fun k e => by cases e; exact hmb
 refine ⟨hsp.grown hg (fun e => hne (Option.some.inj e).symm), ?_⟩;obtain ⟨SL', a1, a2, a3, a4⟩ := hol;exact ⟨SL', a1.kept hg (own_nomap a1 hm), a2, fun k u s hk hs => (a3 k u s hk hs).kept hg (own_nomap (a3 k u s hk hs).1 hm) h5, a4.grown hg a4.size h5⟩
theorem explore_any (N : Nt) (A : Option Addr) (n c : Nat) (Am : Option Addr) (m cm : Nat) (M : List Int) (most : Nat) (w : World) (h : NtIn w A N) (hn : N.tr.length = n) (hM : ZIn w Am M) (hm : M.length = m) (hmk : mkB N M = true) (h1 : 1 ≤ most) (h2 : most ≤ 2000) :
 Calls Tryz.prog 49 #[.agg #[.int .i64 N.pl, .slice A n c, .int .i64 N.src, .int .i64 N.snk], .slice Am m cm, .int .i64 (most : Int)] w (ExPo (exT N M most) w) := by
 have hnb := (NB.new w N.pl A n c N.src N.snk).below (below_alloc _ (.cells #[.slice none 0 0, .slice none 0 0, .bool false] 65));have hrb1 := heap_alloc_new (w.alloc (.cells #[.int .i64 N.pl, .slice A n c, .int .i64 N.src, .int .i64 N.snk] 30)) (.cells #[.slice none 0 0, .slice none 0 0, .bool false] 65);rw [World.size_alloc] at hrb1;have HB := hid (two_boxes w (.cells #[.int .i64 N.pl, .slice A n c, .int .i64 N.src, .int .i64 N.snk] 30) (.cells #[.slice none 0 0, .slice none 0 0, .bool false] 65));have HNb := hid hnb;have HRb := hid (show SpB _ (w.heap.size + 1) (.slice none 0 0) (.slice none 0 0) false from hrb1);have HIn := hid (h.below HB.out);have HM0 := hid (hM.below HB.out);have HNl := hid hn;have HMl := hid hm;have HMk0 := hid hmk;have hps := nt_small (mk_nt hmk);have hml := mk_len hmk;have hn60 : n ≤ 60 := by omega
 have hm40 : m ≤ 1000 := by omega
 have hpl40 : N.pl ≤ 1000 := by omega
 have q1 : decide ((most : Int) < 1) = false := by simp; omega
 have q2 : decide ((most : Int) > 2000) = false := by simp; omega
 obtain ⟨R, hR⟩ : ∃ R, R = exT N M most := ⟨_, rfl⟩;have HR0 := hid (show R = contE N most 0 ⟨[M], [], true⟩ by rw [hR, exT_cont]);rw [← hR];obtain ⟨j0, hi, hz0, hz1, hz2⟩ := info_parts rowInfo;have HJi := hid (And.intro hi (And.intro hz0 (And.intro hz1 hz2)));clear hi hz0 hz1 hz2;obtain ⟨i0, hi, hz0, hz1, hz2⟩ := info_parts moveInfo;have HMi := hid (And.intro hi (And.intro hz0 (And.intro hz1 hz2)));clear hi hz0 hz1 hz2;clear h hn hM hm hmk hnb hrb1 hps hml hR;go_enter Tryz.func49, Tryz.ntmps49;go_wp2_with fail;generalize hw0 : (w.alloc (.cells #[.int .i64 N.pl, .slice A n c, .int .i64 N.src, .int .i64 N.snk] 30)).alloc (.cells #[.slice none 0 0, .slice none 0 0, .bool false] 65) = w0 at *;obtain ⟨rb, hrbe⟩ : ∃ rb, rb = w.heap.size + 1 := ⟨_, rfl⟩;have hrb : w.heap.size ≤ rb := by omega
 rw [← hrbe] at HRb ⊢;clear hw0 hrbe;obtain ⟨b0, b1, b2, b3⟩ := HNb.out.cells;have HEn := hid (penabled_any N A n c Am m cm M w0 HIn.out HNl.out (by omega) HM0.out HMl.out (by omega));rw [show enE N M = 0 by unfold enE; rw [if_pos HMk0.out]] at HEn;((with_reducible refine HEn.out.mono ?_); rintro e w1 ⟨v1, rfl, hS1⟩)
 obtain ⟨A1, c1, rfl⟩ := hS1.slice;have HB1 := hid hS1.2;clear hS1 HEn b0 b1 b2 b3;have HCl := hid (clone_any Am m cm M w1 (HM0.out.below HB1.out) HMl.out (by omega));go_wp2_with fail;((with_reducible refine HCl.out.mono ?_); rintro e w2 ⟨v2, rfl, hS2⟩)
 have HS2 := hid (NS.up HB1.out hS2);obtain ⟨A2, c2, rfl⟩ := hS2.slice;clear hS2 HCl HB1;have HOl := hid (oll_one HS2.out);have hal := below_alloc (w2.alloc (.cells #[.slice A2 M.length c2] 34)) (.cells #[.slice (some ⟨w2.heap.size, 0, none⟩) 1 1, .slice none 0 0, .bool true] 65);have hsb := heap_alloc_new (w2.alloc (.cells #[.slice A2 M.length c2] 34)) (.cells #[.slice (some ⟨w2.heap.size, 0, none⟩) 1 1, .slice none 0 0, .bool true] 65);rw [World.size_alloc] at hsb;have HOl3 := hid (HOl.out.below hal);have HSp3 := hid (show SpB _ (w2.heap.size + 1) (.slice (some ⟨w2.heap.size, 0, none⟩) 1 1) (.slice none 0 0) true from hsb);have hsbl : w0.heap.size ≤ w2.heap.size + 1 := by have := HS2.out.size; omega
 clear hal hsb HOl HS2
 go_upto_region 7 with (fail)
 generalize hw3 : (w2.alloc (.cells #[.slice A2 M.length c2] 34)).alloc (.cells #[.slice (some ⟨w2.heap.size, 0, none⟩) 1 1, .slice none 0 0, .bool true] 65) = w3 at *;generalize hg2 : w2.heap.size = g2 at *;generalize hsbe : g2 + 1 = sb at *;clear hw3 hg2 hsbe;have hmm := @run_makeMap Tryz.prog;have hal := below_alloc w3 (.map #[] 0);have HKs := hid (KS.made w3);have HM4 := hid (HM0.out.below (below_then HOl3.out.bel hal));have HKy := hid (skey_any Am m cm M (w3.alloc (.map #[] 0)) HM4.out HMl.out (mk_okB HMk0.out));have hmbl : w0.heap.size ≤ w3.heap.size := HOl3.out.bel.size;go_wp2_with fail;generalize hw4 : w3.alloc (.map #[] 0) = w4 at *;generalize hmbe : w3.heap.size = mb at *;((with_reducible refine HKy.out.mono ?_); rintro e w5 ⟨rfl, hb5⟩)
 have HKs5 := hid (HKs.out.below hb5);rw [← hmbe] at hal;have HSp5 := hid ((HSp3.out.below hal).below hb5);have HOl5 := hid ((HOl3.out.below hal).below hb5);clear hal hb5 HKy HKs HSp3 HOl3 HM4 hw4 hmbe hmm;obtain ⟨w6, hrun, hks6, hgr6⟩ := HKs5.out.store (mk_okB HMk0.out) (by simp) (by simp);simp only [List.length_nil, List.nil_append] at hrun hks6;rw [show (((0 : Nat)) : Int) = 0 from rfl] at hrun;obtain ⟨hsp6, hol6⟩ := ks_stored HSp5.out HKs5.out HOl5.out hgr6 hmbl;have HX0 := hid (show EX w0 w6 sb mb (.slice (some ⟨g2, 0, none⟩) 1 1) (.slice none 0 0) ⟨[M], [], true⟩ from ⟨hsp6, hks6, hol6, OMv.start hol6.bel, hsbl, hmbl⟩);clear hks6 hgr6 hsp6 hol6 HSp5 HKs5 HOl5 hsbl hmbl;go_wp2_with fail;clear hrun;go_loopg [12] (most + 1) (fun g iv wr => XOut N M most R w0 sb mb g iv wr);case atStart => exact ⟨0, _, _, _, by omega, rfl, HX0.out, EInv.start HMk0.out h1, by omega, HR0.out, by simp⟩
 case round =>
  clear HX0 HR0;obtain ⟨i, E, vS, vM, hig, rfl, hX, hI, hil0, hRc, hmv1⟩ := hrel;obtain ⟨SL, MV, fl⟩ := E;obtain ⟨As, cs, hvS⟩ := hX.ol.slice;obtain ⟨Am2, cm2, hvM⟩ := hX.om.slice;subst hvS hvM;simp only at hil0 hX hmv1;have HK := hid hig;have HX := hid hX;have HE0 := hid hI;have HRc0 := hid hRc;have hsl : SL.length ≤ most := hI.le;obtain ⟨x0, x1, x2⟩ := HX.out.sp.cells;clear hig hX hI hRc;by_cases hlt : i < SL.length
  · have hiI : (i : Int) < (SL.length : Int) := by omega
    have hi0 : (0 : Int) ≤ (i : Int) := by omega
    obtain ⟨As', cs', hv9, hlin, _, _⟩ := HX.out.ol.lin;cases hv9;have HMk := hid (show mkB N SL[i] = true from HE0.out.mks _ (List.getElem_mem hlt));have HSi := hid (show SL[i]? = some SL[i] from List.getElem?_eq_getElem hlt);obtain ⟨sa, rfl, hsa, u, c0, Au, nu, cu, rfl, hzu, hul, _, _⟩ := hlin i hlt;have HRc := hid (show R = (exTo N most i SL[i] N.tr.length ⟨SL, MV, fl⟩).bind (contE N most (i + 1)) from HRc0.out.trans (contE_step (List.getElem?_eq_getElem hlt) (by omega)));generalize SL[i] = s at *;subst hul;have HSu := hid hzu;have HEe := hid (show enE N s = 0 by unfold enE; rw [if_pos HMk.out]);have HEv := hid (show enV N s = enTo N s N.tr.length by unfold enV; rw [if_pos HMk.out]);have hsl9 : s.length ≤ 1000 := by have := mk_len HMk.out; omega
    clear hlin hzu HRc0
    go_upto_region 11 with (fail)
    have hbd : Below wr.heap.size wr wr.drew := (Below.refl _ _).drew;have HXd := hid (HX.out.below hbd);have HNd := hid (HNb.out.below (below_then HX.out.ol.bel hbd));have HInd := hid (HIn.out.below (below_then HX.out.ol.bel hbd));have HSud := hid (HSu.out.below hbd);have hS0 : wr.drew.cell? ⟨w.heap.size, 0, none⟩ = some (.int .i64 N.pl) ∧ wr.drew.cell? ⟨w.heap.size, 1, none⟩ = some (.slice A n c) ∧ wr.drew.cell? ⟨w.heap.size, 2, none⟩ = some (.int .i64 N.src) ∧ wr.drew.cell? ⟨w.heap.size, 3, none⟩ = some (.int .i64 N.snk) ∧ wr.drew.cell? ⟨sb, 0, none⟩ = some (.slice (some sa) SL.length cs) ∧ wr.drew.cell? (sa.add i) = some (.slice Au s.length cu) := ⟨HNd.out.cells.1, HNd.out.cells.2.1, HNd.out.cells.2.2.1, HNd.out.cells.2.2.2, HXd.out.sp.cells.1, cell_stays hbd c0⟩;refine rh6 hS0 (fun hHeld => ?_);clear hS0 hbd HX c0 HNd HSu x0 x1 x2;generalize wr.drew = wd at *;refine tkH 0 ?_;(try go_simp);refine tkH 1 ?_;(try go_simp);refine tkH 2 ?_;(try go_simp);refine tkH 3 ?_;(try go_simp);refine tkH 4 ?_;(try go_simp);refine tkH 5 ?_;(try go_simp);refine tkR 6 (fun K9 hK => ?_);have HEn := hid (penabled_any N A n c Au s.length cu s wd HInd.out HNl.out (by omega) HSud.out rfl (by omega));rw [HEe.out, HEv.out] at HEn;go_simp;((refine (HEn.out).mono ?_); rintro e w5 ⟨von, rfl, hSon⟩)
    have hb5 := hSon.2;have HO := hid (NS.up HXd.out.ol.bel hSon);obtain ⟨Ao, co, rfl⟩ := hSon.slice;have hS9 := hHeld;refine hK.out _ _ (ks6 hb5 hS9) (fun hHeld => ?_);clear hK K9 hS9 hSon;try go_simp
    refine tkH 7 ?_;(try go_simp);refine tkH 8 ?_;(try go_simp);refine tkH 9 ?_;(try go_simp);refine tkH 10 ?_;(try go_simp);refine tkH 11 ?_;(try go_simp);refine wpAnyH_done (by kernel_rfl) ?_ _;clear hHeld;have HX := hid (HXd.out.below hb5);clear HXd HInd HSud HEn hb5;obtain ⟨no, hno⟩ : ∃ no, no = (enTo N s N.tr.length).length := ⟨_, rfl⟩;have hno60 : no ≤ 60 := by have := en_len N s N.tr.length; have := HNl.out; omega
    have HOl := hid hno.symm;rw [← hno] at HO ⊢;clear hno;obtain ⟨E0, hE0⟩ : ∃ E0 : ExS, E0 = ⟨SL, MV, fl⟩ := ⟨_, rfl⟩;rw [← hE0] at HE0 HRc;have HX0 := hid (show EX w0 w5 sb mb (.slice (some sa) SL.length cs) (.slice Am2 MV.length cm2) E0 by rw [hE0]; exact HX.out);have HMv0 := hid (show E0.MV.length ≤ 20000 by rw [hE0]; exact hmv1);have HSi0 := hid (show E0.SL[i]? = some s by rw [hE0]; exact HSi.out);have him : i < most := by omega
    clear HX hE0 HSi hsl hil0 hlt hiI hsa hmv1;go_wp2_with fail;obtain ⟨go, rfl⟩ : ∃ go, go = gk := ⟨_, rfl⟩;go_loopg [64] (no) (fun g jv wr => XIn N most i s E0 w0 sb mb no Ao co g jv wr);case atStart => exact ⟨0, 0, E0, _, _, by omega, rfl, HX0.out, by omega, rfl, rfl, HO.out, HMv0.out⟩
    case round =>
     clear HX0 HO;obtain ⟨j, k, E, vS, vM, hjg, rfl, hX, hkl, hex0, henl, hO, hmv2⟩ := hrel;obtain ⟨SL, MV, fl⟩ := E;obtain ⟨As, cs, hvS⟩ := hX.ol.slice;obtain ⟨Am2, cm2, hvM⟩ := hX.om.slice;subst hvS hvM;simp only at hX hmv2;have HJ := hid hjg;have HX := hid hX;have HExT := hid hex0;have HEnl := hid henl;have HO := hid hO;have hle2 : j ≤ no := by omega
     obtain ⟨x0, x1, x2⟩ := HX.out.sp.cells;clear hjg hX hex0 henl hO;by_cases hlt2 : j < no
     · have hjl : j < (enTo N s N.tr.length).length := by rw [HOl.out]; exact hlt2
       obtain ⟨t, htl, hton, hcan, hex, hen⟩ := en_next (N.tr.length - k) k j (by omega) HExT.out HEnl.out hjl;have hcan0 := hcan;rw [canAt_get _ _ _ htl] at hcan0;obtain ⟨tr, htg, hcant⟩ : ∃ tr, N.tr[t]? = some tr ∧ canT tr s = true := ⟨_, List.getElem?_eq_getElem htl, hcan0⟩;obtain ⟨hEt, L9, hL9⟩ := HE0.out.to HSi0.out t (by omega) hex;have HSi2 := hid (show SL[i]? = some s by rw [show SL = _ from hL9, List.getElem?_append_left (List.getElem?_eq_some_iff.1 HSi0.out).1]; exact HSi0.out);have HEt := hid hEt;have HTl := hid (show t + 1 ≤ N.tr.length from htl);have HEl := hid (show (enTo N s (t + 1)).length = j + 1 by rw [en_yes _ _ _ hcan]; simp [hen]);have HStep := hid (fun (E' : ExS) (h9 : exOne N most i s t ⟨SL, MV, fl⟩ = some E') => show exTo N most i s (t + 1) E0 = some E' by rw [exTo, hex]; exact h9);have HRno := hid (fun (h9 : exOne N most i s t ⟨SL, MV, fl⟩ = none) => show R = none by
        rw [HRc.out, exTo_none (show exTo N most i s (t + 1) E0 = none by rw [exTo, hex]; exact h9) N.tr.length htl]; rfl)
       have HCan := hid hcant;have HTg := hid htg;obtain ⟨ao, hoe, hpo, o0⟩ := (ns_zin2 HO.out) j hjl;subst hoe;rw [hton] at o0;obtain ⟨As', cs', hv9, hlin, _, _⟩ := HX.out.ol.lin;cases hv9;obtain ⟨sa, rfl, hsa, u, c0, Au, nu, cu, rfl, hzu, hul, _, _⟩ := hlin i (List.getElem?_eq_some_iff.1 HSi2.out).1;rw [show SL[i]'(List.getElem?_eq_some_iff.1 HSi2.out).1 = s from (List.getElem?_eq_some_iff.1 HSi2.out).2] at hzu hul;subst hul;have hil : (i : Int) < (SL.length : Int) := by have := (List.getElem?_eq_some_iff.1 HSi2.out).1; omega
       have hi0 : (0 : Int) ≤ (i : Int) := by omega
       have HSu := hid hzu;have hsll : SL.length ≤ 2000 := by have := HEt.out.le; simp only at this; omega
       have hjl2 : (j : Int) < (no : Int) := by omega
       clear hjl hton hcan hcan0 hcant hex hen htg hEt hL9 hlin hzu
       go_upto_region 15 with (fail)
       cases hb : bigM (fireT tr s) with
       | true =>
        have HFe := hid (show fire21 N s (t : Int) = ([], 5) by unfold fire21; rw [if_pos HMk.out]; exact fire_big HTg.out HCan.out hb);have HEx := hid (HStep.out _ (exOne_big HTg.out HCan.out hb));clear hb;have hbd : Below wr.heap.size wr wr.drew := (Below.refl _ _).drew;have HXd := hid (HX.out.below hbd);have HNd := hid (HNb.out.below (below_then HX.out.ol.bel hbd));have HOd := hid (HO.out.below hbd);have HSud := hid (HSu.out.below hbd);have HInd := hid (HIn.out.below (below_then HX.out.ol.bel hbd));have hS0 : wr.drew.cell? ⟨w.heap.size, 0, none⟩ = some (.int .i64 N.pl) ∧ wr.drew.cell? ⟨w.heap.size, 1, none⟩ = some (.slice A n c) ∧ wr.drew.cell? ⟨w.heap.size, 2, none⟩ = some (.int .i64 N.src) ∧ wr.drew.cell? ⟨w.heap.size, 3, none⟩ = some (.int .i64 N.snk) ∧ wr.drew.cell? ⟨sb, 0, none⟩ = some (.slice (some sa) SL.length cs) ∧ wr.drew.cell? (sa.add i) = some (.slice Au s.length cu) := ⟨HNd.out.cells.1, HNd.out.cells.2.1, HNd.out.cells.2.2.1, HNd.out.cells.2.2.2, HXd.out.sp.cells.1, cell_stays hbd c0⟩;refine rh6 hS0 (fun hHeld => ?_);clear hS0 hbd HX c0 HNd HO HSu;generalize wr.drew = wd at *;refine tkH 0 ?_;(try go_simp);refine tkH 1 ?_;(try go_simp);refine tkH 2 ?_;(try go_simp);refine tkH 3 ?_;(try go_simp);refine tkH 4 ?_;(try go_simp);refine tkH 5 ?_;(try go_simp);refine tkH 6 ?_;(try go_simp);refine tkR 7 (fun K9 hK => ?_);have HFi := hid (pFire_any N A n c Au s.length cu s (t : Int) wd HInd.out HNl.out (by omega) HSud.out rfl (by omega));rw [HFe.out] at HFi;go_simp;((refine (HFi.out).mono ?_); rintro e w5 hfv)
        rcases hfv.parts with ⟨h9, _⟩ | ⟨_, rfl, hb5⟩
        · exact absurd h9 (by decide)
        clear hfv;have hS9 := hHeld;refine hK.out _ _ (ks6 hb5 hS9) (fun hHeld => ?_);clear hK K9 hS9;try go_simp
        refine tkH 8 ?_;(try go_simp);refine tkH 9 ?_;(try go_simp);refine tkH 10 ?_;(try go_simp);refine tkH 11 ?_;(try go_simp);refine tkH 12 ?_;(try go_simp);refine wpAnyH_done (by kernel_rfl) ?_ _;clear hHeld;have HX := hid (HXd.out.below hb5);have HO := hid (HOd.out.below hb5);clear HXd HOd HSud HInd HFi hb5;obtain ⟨hex, hns⟩ := HX.out.mark;have HX6 := hid hex;have HO6 := hid (hns _ _ HO.out);obtain ⟨x0, x1, x2⟩ := HX.out.sp.cells;have xf := HX.out.sp.soft 2;clear hex hns;go_wp2_with fail;generalize w5.setCell ⟨sb, 2, none⟩ _ = w6 at *;go_wp2_with fail;go_roundg (gk - 1);case measure => have := HJ.out; omega
        case rel => exact ⟨j + 1, t + 1, _, _, _, by have := HJ.out; omega, by go_num, HX6.out, HTl.out, HEx.out, HEl.out, HO6.out, hmv2⟩
       | false =>
        have HFe := hid (show fire21 N s (t : Int) = (fireT tr s, 0) by unfold fire21; rw [if_pos HMk.out]; exact fire_at (f := 0) HTg.out HCan.out hb);have HBg := hid hb;have HOkF := hid (mk_okB (fire_mk2 HMk.out HTg.out HCan.out hb));clear hb;have hbd : Below wr.heap.size wr wr.drew := (Below.refl _ _).drew;have HXd := hid (HX.out.below hbd);have HNd := hid (HNb.out.below (below_then HX.out.ol.bel hbd));have HOd := hid (HO.out.below hbd);have HSud := hid (HSu.out.below hbd);have HInd := hid (HIn.out.below (below_then HX.out.ol.bel hbd));have hS0 : wr.drew.cell? ⟨w.heap.size, 0, none⟩ = some (.int .i64 N.pl) ∧ wr.drew.cell? ⟨w.heap.size, 1, none⟩ = some (.slice A n c) ∧ wr.drew.cell? ⟨w.heap.size, 2, none⟩ = some (.int .i64 N.src) ∧ wr.drew.cell? ⟨w.heap.size, 3, none⟩ = some (.int .i64 N.snk) ∧ wr.drew.cell? ⟨sb, 0, none⟩ = some (.slice (some sa) SL.length cs) ∧ wr.drew.cell? (sa.add i) = some (.slice Au s.length cu) := ⟨HNd.out.cells.1, HNd.out.cells.2.1, HNd.out.cells.2.2.1, HNd.out.cells.2.2.2, HXd.out.sp.cells.1, cell_stays hbd c0⟩;refine rh6 hS0 (fun hHeld => ?_);clear hS0 hbd HX c0 HNd HO HSu;generalize wr.drew = wd at *;refine tkH 0 ?_;(try go_simp);refine tkH 1 ?_;(try go_simp);refine tkH 2 ?_;(try go_simp);refine tkH 3 ?_;(try go_simp);refine tkH 4 ?_;(try go_simp);refine tkH 5 ?_;(try go_simp);refine tkH 6 ?_;(try go_simp);refine tkR 7 (fun K9 hK => ?_);have HFi := hid (pFire_any N A n c Au s.length cu s (t : Int) wd HInd.out HNl.out (by omega) HSud.out rfl (by omega));rw [HFe.out] at HFi;go_simp;((refine (HFi.out).mono ?_); rintro e w5 hfv)
        rcases hfv.parts with ⟨_, vn, rfl, hSn⟩ | ⟨h9, _⟩;rotate_left
        · exact absurd rfl h9
        have hb5 := hSn.2;obtain ⟨An, cn, rfl⟩ := hSn.slice;have HNx := hid (NS.up HXd.out.ol.bel hSn);clear hfv hSn;have hS9 := hHeld;refine hK.out _ _ (ks6 hb5 hS9) (fun hHeld => ?_);clear hK K9 hS9;try go_simp
        refine tkH 8 ?_;(try go_simp);refine tkH 9 ?_;(try go_simp);refine tkH 10 ?_;(try go_simp);refine tkH 11 ?_;(try go_simp);refine tkH 12 ?_;(try go_simp);refine wpAnyH_done (by kernel_rfl) ?_ _;clear hHeld;have HX := hid (HXd.out.below hb5);have HO := hid (HOd.out.below hb5);clear HXd HOd HSud HInd HFi hb5;by_cases hin : fireT tr s ∈ SL
        · have hix : exIdx SL (fireT tr s) < SL.length := by
           obtain ⟨a9, ha9, e9⟩ := List.getElem_of_mem hin;exact List.findIdx_lt_length_of_exists ⟨_, hin, by simp⟩
          have HOne := hid (exOne_old (most := most) (i := i) (E := ⟨SL, MV, fl⟩) HTg.out HCan.out HBg.out hix);simp only at HOne;have HKy := hid (skey_any An (fireT tr s).length cn (fireT tr s) w5 (ns_zin2 HNx.out) rfl HOkF.out);go_wp2_with fail;((with_reducible refine HKy.out.mono ?_); rintro e wp ⟨rfl, hbp⟩)
          have HX9 := hid (HX.out.below hbp);have HO9 := hid (HO.out.below hbp);clear HX HO hbp HKy HNx;have HX := hid HX9.out;have HO := hid HO9.out;clear HX9 HO9;have hlk := (show KS wp mb SL from HX.out.ks).yes HOkF.out (exIdx SL (fireT tr s) : Int) (fun k9 hk9 => by have := exIdx_eq (SL := SL) HEt.out.nod hk9; omega) hin;generalize exIdx SL (fireT tr s) = kx at *;generalize fireT tr s = fs at *;have hq : wp.ownsRow w0.heap.size 71 3 (.slice Am2 MV.length cm2) MV.length (MV.flatMap mvC) := HX.out.om.1;obtain ⟨x0, x1, x2⟩ := HX.out.sp.cells;have hbs := HX.out.om.2.size;go_wp2_with (at_builtin; refine wpList_append_own _ rfl _ _ 36 rfl w0.heap.size 71 i0 (.agg #[.int .i64 0, .int .i64 0, .int .i64 0]) 3 24 Tryz.underlying36 HMi.out.1 HMi.out.2.1 HMi.out.2.2.1 HMi.out.2.2.2 rfl (by decide) (.slice Am2 MV.length cm2) _ _ rfl (hq.alloc _) ⟨wp.heap.size, 0, none⟩ 1 1 [.int .i64 (i : Int), .int .i64 ((kx : Int)), .int .i64 (t : Int)] rfl rfl ?e1 ?e2 ?e3 ?e4 ?e5 ?_);try (case e1 => exact news_blk (heap_alloc_new wp (.cells #[.int .i64 (i : Int), .int .i64 ((kx : Int)), .int .i64 (t : Int)] 71)))
          case e2 => first | exact ⟨rfl, rfl, rfl⟩ | (intro u hu; simp at hu; rcases hu with rfl | rfl | rfl <;> rfl)
          case e3 => unfold maxLen; omega
          case e4 => omega
          case e5 => first | omega | (simp; omega)
          intro v5 w5 hown5 hgrow5 _;obtain ⟨A5, c5, rfl, _⟩ := row_slice hown5;obtain ⟨hsp5, hex, hns⟩ := EX.pushM (x := ⟨(i : Int), (kx : Int), (t : Int)⟩) HX.out hown5 hgrow5;have HX6 := hid hex;have HO6 := hid (hns _ _ HO.out);obtain ⟨y0, y1, y2⟩ := hsp5.cells;have xf := hsp5.soft 1;clear hq hown5 hgrow5 hex hns x0 x1 x2 HX HO
          go_upto_region 26 with (fail)
          generalize w5.setCell ⟨sb, 1, none⟩ _ = w6 at *;clear y0 y1 y2 xf hsp5;obtain ⟨x0, x1, x2⟩ := HX6.out.sp.cells;by_cases hmv : 20000 ≤ MV.length
          · have q9 : decide ((((MV.length + 1 : Nat)) : Int) > 20000) = true := by simp; omega
            have q9b : decide (((MV.length : Int) + 1) > 20000) = true := by simp; omega
            have HRn := hid (HRno.out (by rw [HOne.out, if_pos hmv]));have HR6 := hid (HRb.out.below HX6.out.ol.bel);obtain ⟨r0, r1, r2⟩ := HR6.out.cells;have rf0 := HR6.out.soft;have HRe := hid (((HR6.out.set0 (.slice none 0 0)).set1 (.slice none 0 0)).set2 false);have HBe := hid (((((below_then HB.out HX6.out.ol.bel).setCell (p := ⟨rb, 0, none⟩) hrb (.slice none 0 0))).setCell (p := ⟨rb, 1, none⟩) hrb (.slice none 0 0)).setCell (p := ⟨rb, 2, none⟩) hrb (.bool false));clear hmv;go_wp2_with fail;generalize ((w6.setCell ⟨rb, 0, none⟩ _).setCell ⟨rb, 1, none⟩ _).setCell ⟨rb, 2, none⟩ _ = we at *;obtain ⟨d0, d1, d2⟩ := HRe.out.cells;exact bodyPost_ret (v := .tuple #[.agg #[.slice none 0 0, .slice none 0 0, .bool false], .int .i64 13]) (by simp [results, Tryz.results49, go_sem, d0, d1, d2]) rfl ⟨HBe.out, by rw [HRn.out]⟩
          · have q9 : decide ((((MV.length + 1 : Nat)) : Int) > 20000) = false := by simp; omega
            have q9b : decide (((MV.length : Int) + 1) > 20000) = false := by simp; omega
            have HEx := hid (HStep.out _ (by rw [HOne.out, if_neg hmv]));have hmv3 : (MV ++ [(⟨(i : Int), (kx : Int), (t : Int)⟩ : Mv)]).length ≤ 20000 := by simp; omega
            clear hmv;go_wp2_with fail;go_roundg (gk - 1);case measure => have := HJ.out; omega
            case rel => exact ⟨j + 1, t + 1, _, _, _, by have := HJ.out; omega, by go_num, HX6.out, HTl.out, HEx.out, HEl.out, HO6.out, hmv3⟩
        · have hix := exIdx_out hin;have HKy := hid (skey_any An (fireT tr s).length cn (fireT tr s) w5 (ns_zin2 HNx.out) rfl HOkF.out);go_wp2_with fail;((with_reducible refine HKy.out.mono ?_); rintro e w6 ⟨rfl, hb6⟩)
          have HX9 := hid (HX.out.below hb6);have HO9 := hid (HO.out.below hb6);have HNx9 := hid (HNx.out.below hb6);clear HX HO hb6 HKy HNx;have HX := hid HX9.out;have HO := hid HO9.out;have HNx := hid HNx9.out;clear HX9 HO9 HNx9;have hlk := (show KS w6 mb SL from HX.out.ks).no HOkF.out hin;obtain ⟨x0, x1, x2⟩ := HX.out.sp.cells;by_cases hfull : SL.length < most
          · have q8 : decide ((SL.length : Int) ≥ (most : Int)) = false := by simp; omega
            have q8b : decide (most ≤ SL.length) = false := by simp; omega
            have HOne := hid (exOne_new (most := most) (i := i) (E := ⟨SL, MV, fl⟩) HTg.out HCan.out HBg.out hix hfull);simp only at HOne;have HKy := hid (fun w9 (h9 : ZIn w9 An (fireT tr s)) => skey_any An (fireT tr s).length cn (fireT tr s) w9 h9 rfl HOkF.out);generalize hfs : fireT tr s = fs at *;clear hfull hix hfs;have HKy6 := hid (HKy.out w6 (ns_zin2 HNx.out));go_wp2_with fail;((with_reducible refine HKy6.out.mono ?_); rintro e w7 ⟨rfl, hb7⟩)
            have HX9 := hid (HX.out.below hb7);have HO9 := hid (HO.out.below hb7);have HNx9 := hid (HNx.out.below hb7);clear HX HO hb7 HKy HKy6 HNx hlk x0 x1 x2;obtain ⟨w8, hrun, hks8, hgr8⟩ := HX9.out.ks.store HOkF.out hin (by simp only; omega);simp only at hrun hks8;obtain ⟨hsp8, hol8, hom8, hns8⟩ := HX9.out.stored hgr8;simp only at hsp8 hol8 hom8;have HO8 := hid (hns8 _ _ HO9.out);have HN8 := hid (hns8 _ _ HNx9.out);have HSp8 := hid hsp8;have HKs8 := hid hks8;have HOm8 := hid hom8;have HOl8 := hid hol8;have hsb8 := HX9.out.sbl;have hmb8 := HX9.out.mbl;obtain ⟨x0, x1, x2⟩ := hsp8.cells;clear hks8 hgr8 hsp8 hol8 hom8 hns8 HX9 HO9 HNx9;obtain ⟨SLk, q1, q2, q3, q4⟩ := HOl8.out;go_wp2_with (at_builtin; refine wpList_append_own _ rfl _ _ 35 rfl w0.heap.size 34 j0 (.slice none 0 0) 1 24 Tryz.underlying35 HJi.out.1 HJi.out.2.1 HJi.out.2.2.1 HJi.out.2.2.2 rfl (by decide) (.slice (some sa) SL.length cs) _ _ rfl (q1.alloc _) ⟨w8.heap.size, 0, none⟩ 1 1 [.slice An fs.length cn] rfl rfl ?c1 ?c2 ?c3 ?c4 ?c5 ?_);case c1 => exact news_blk (heap_alloc_new w8 (.cells #[.slice An fs.length cn] 34))
            case c2 => intro u hu; simp at hu; subst hu; rfl
            case c3 => unfold maxLen; omega
            case c4 => omega
            case c5 => have := q4.size; simp; omega
            intro v5 w9 hown5 hgrow5 _;obtain ⟨A5, c5, rfl, _⟩ := row_slice hown5;obtain ⟨hsp9, hex, hns9⟩ := EX.pushS (E := ⟨SL, MV, fl⟩) HSp8.out HKs8.out HOm8.out hsb8 hmb8 q1 q2 q3 q4 HN8.out hown5 hgrow5;have HX9 := hid hex;have HO9 := hid (hns9 _ _ HO8.out);obtain ⟨y0, y1, y2⟩ := hsp9.cells;have xf := hsp9.soft 0;clear q1 q2 q3 q4 hown5 hgrow5 hex hns9 hrun x0 x1 x2 HO8 HN8 HSp8 HKs8 HOm8 HOl8
            go_upto_region 25 with (fail)
            generalize w9.setCell ⟨sb, 0, none⟩ _ = wp at *;clear y0 y1 y2 xf hsp9;have HX := hid HX9.out;have HO := hid HO9.out;clear HX9 HO9;simp only at HX;have HSlen := hid (show (SL ++ [fs]).length = SL.length + 1 by simp);have hq : wp.ownsRow w0.heap.size 71 3 (.slice Am2 MV.length cm2) MV.length (MV.flatMap mvC) := HX.out.om.1;obtain ⟨x0, x1, x2⟩ := HX.out.sp.cells;have hbs := HX.out.om.2.size;go_wp2_with (at_builtin; refine wpList_append_own _ rfl _ _ 36 rfl w0.heap.size 71 i0 (.agg #[.int .i64 0, .int .i64 0, .int .i64 0]) 3 24 Tryz.underlying36 HMi.out.1 HMi.out.2.1 HMi.out.2.2.1 HMi.out.2.2.2 rfl (by decide) (.slice Am2 MV.length cm2) _ _ rfl (hq.alloc _) ⟨wp.heap.size, 0, none⟩ 1 1 [.int .i64 (i : Int), .int .i64 ((SL.length : Int)), .int .i64 (t : Int)] rfl rfl ?e1 ?e2 ?e3 ?e4 ?e5 ?_);try (case e1 => exact news_blk (heap_alloc_new wp (.cells #[.int .i64 (i : Int), .int .i64 ((SL.length : Int)), .int .i64 (t : Int)] 71)))
            case e2 => first | exact ⟨rfl, rfl, rfl⟩ | (intro u hu; simp at hu; rcases hu with rfl | rfl | rfl <;> rfl)
            case e3 => unfold maxLen; omega
            case e4 => omega
            case e5 => first | omega | (simp; omega)
            intro v5 w5 hown5 hgrow5 _;obtain ⟨A5, c5, rfl, _⟩ := row_slice hown5;obtain ⟨hsp5, hex, hns⟩ := EX.pushM (x := ⟨(i : Int), (SL.length : Int), (t : Int)⟩) HX.out hown5 hgrow5;have HX6 := hid hex;have HO6 := hid (hns _ _ HO.out);obtain ⟨y0, y1, y2⟩ := hsp5.cells;have xf := hsp5.soft 1;clear hq hown5 hgrow5 hex hns x0 x1 x2 HX HO
            go_upto_region 26 with (fail)
            generalize w5.setCell ⟨sb, 1, none⟩ _ = w6 at *;clear y0 y1 y2 xf hsp5;obtain ⟨x0, x1, x2⟩ := HX6.out.sp.cells;by_cases hmv : 20000 ≤ MV.length
            · have q9 : decide ((((MV.length + 1 : Nat)) : Int) > 20000) = true := by simp; omega
              have q9b : decide (((MV.length : Int) + 1) > 20000) = true := by simp; omega
              have HRn := hid (HRno.out (by rw [HOne.out, if_pos hmv]));have HR6 := hid (HRb.out.below HX6.out.ol.bel);obtain ⟨r0, r1, r2⟩ := HR6.out.cells;have rf0 := HR6.out.soft;have HRe := hid (((HR6.out.set0 (.slice none 0 0)).set1 (.slice none 0 0)).set2 false);have HBe := hid (((((below_then HB.out HX6.out.ol.bel).setCell (p := ⟨rb, 0, none⟩) hrb (.slice none 0 0))).setCell (p := ⟨rb, 1, none⟩) hrb (.slice none 0 0)).setCell (p := ⟨rb, 2, none⟩) hrb (.bool false));clear hmv;go_wp2_with fail;generalize ((w6.setCell ⟨rb, 0, none⟩ _).setCell ⟨rb, 1, none⟩ _).setCell ⟨rb, 2, none⟩ _ = we at *;obtain ⟨d0, d1, d2⟩ := HRe.out.cells;exact bodyPost_ret (v := .tuple #[.agg #[.slice none 0 0, .slice none 0 0, .bool false], .int .i64 13]) (by simp [results, Tryz.results49, go_sem, d0, d1, d2]) rfl ⟨HBe.out, by rw [HRn.out]⟩
            · have q9 : decide ((((MV.length + 1 : Nat)) : Int) > 20000) = false := by simp; omega
              have q9b : decide (((MV.length : Int) + 1) > 20000) = false := by simp; omega
              have HEx := hid (HStep.out _ (by rw [HOne.out, if_neg hmv]));have hmv3 : (MV ++ [(⟨(i : Int), (SL.length : Int), (t : Int)⟩ : Mv)]).length ≤ 20000 := by simp; omega
              clear hmv;go_wp2_with fail;go_roundg (gk - 1);case measure => have := HJ.out; omega
              case rel => exact ⟨j + 1, t + 1, _, _, _, by have := HJ.out; omega, by go_num, HX6.out, HTl.out, HEx.out, HEl.out, HO6.out, hmv3⟩
          · have q8 : decide ((SL.length : Int) ≥ (most : Int)) = true := by simp; omega
            have q8b : decide (most ≤ SL.length) = true := by simp; omega
            have HEx := hid (HStep.out _ (exOne_full HTg.out HCan.out HBg.out hix hfull));clear hfull hix;have xf := HX.out.sp.soft 2;obtain ⟨hex, hns⟩ := HX.out.mark;have HX6 := hid hex;have HO6 := hid (hns _ _ HO.out);clear hex hns;go_wp2_with fail;generalize w6.setCell ⟨sb, 2, none⟩ _ = w7 at *;go_wp2_with fail;go_roundg (gk - 1);case measure => have := HJ.out; omega
            case rel => exact ⟨j + 1, t + 1, _, _, _, by have := HJ.out; omega, by go_num, HX6.out, HTl.out, HEx.out, HEl.out, HO6.out, hmv2⟩
     · have hex := en_done (N.tr.length - k) k (by omega) HExT.out (by rw [HEnl.out, HOl.out]; have := HJ.out; omega);obtain ⟨hEn, L9, hL9⟩ := HE0.out.to HSi0.out N.tr.length (Nat.le_refl _) hex;have HEn := hid hEn.row;have hRR := HRc.out;rw [hex] at hRR;have HRn := hid (show R = contE N most (i + 1) ⟨SL, MV, fl⟩ from hRR);have hil9 : i + 1 ≤ SL.length := by
        have h9 := (List.getElem?_eq_some_iff.1 HSi0.out).1;have : SL = E0.SL ++ L9 := hL9;rw [this, List.length_append]; omega
       clear hex hEn hL9 hRR;go_wp2_with fail;go_roundg (go - 1);case measure => have := HK.out; omega
       case rel => exact ⟨i + 1, ⟨SL, MV, fl⟩, _, _, by have := HK.out; omega, by go_num, HX.out, HEn.out, hil9, HRn.out, hmv2⟩
  · have HRn := hid (HRc0.out.trans (contE_end (E := ⟨SL, MV, fl⟩) (by simp only; omega) (by omega)));have HR6 := hid (HRb.out.below HX.out.ol.bel);obtain ⟨r0, r1, r2⟩ := HR6.out.cells;have rf0 := HR6.out.soft;have HRe := hid (((HR6.out.set0 (.slice As SL.length cs)).set1 (.slice Am2 MV.length cm2)).set2 fl);have HOe := hid ((((HX.out.ol.up HB.out).box (o := 0) HR6.out (by decide) (by decide) hrb (.slice As SL.length cs)).box (o := 1) (HR6.out.set0 (.slice As SL.length cs)) (by decide) (by decide) hrb (.slice Am2 MV.length cm2)).box (o := 2) ((HR6.out.set0 (.slice As SL.length cs)).set1 (.slice Am2 MV.length cm2)) (by decide) (by decide) hrb (.bool fl));have HMe := hid ((((HX.out.om.up HB.out).box (o := 0) HR6.out (by decide) hrb (.slice As SL.length cs)).box (o := 1) (HR6.out.set0 (.slice As SL.length cs)) (by decide) hrb (.slice Am2 MV.length cm2)).box (o := 2) ((HR6.out.set0 (.slice As SL.length cs)).set1 (.slice Am2 MV.length cm2)) (by decide) hrb (.bool fl));go_wp2_with fail;generalize ((wr.setCell ⟨rb, 0, none⟩ _).setCell ⟨rb, 1, none⟩ _).setCell ⟨rb, 2, none⟩ _ = we at *;obtain ⟨d0, d1, d2⟩ := HRe.out.cells;exact bodyPost_ret (v := .tuple #[.agg #[.slice As SL.length cs, .slice Am2 MV.length cm2, .bool fl], .int .i64 0]) (by simp [results, Tryz.results49, go_sem, d0, d1, d2]) rfl ⟨HOe.out.bel, by rw [HRn.out]; exact ⟨_, _, rfl, HOe.out, HMe.out⟩⟩
end Go.Proofs.YtpiihmbeedlpkaaGreatDoor
