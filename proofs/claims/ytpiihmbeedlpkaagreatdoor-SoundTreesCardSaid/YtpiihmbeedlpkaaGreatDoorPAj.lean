/- petri.Run: what a call returns. verdict.key: what a call returns; sets of markings by these keys. space.key: what a call returns; maps from these keys to the markings' places. -/
import Derived.Test.YtpiihmbeedlpkaaGreatDoorPUu
import Derived.Test.YtpiihmbeedlpkaaGreatDoorPHf
import Derived.Test.YtpiihmbeedlpkaaGreatDoorPDg
import Derived.Laws.IdiomStrings
import Derived.Lib.ItoaLen
namespace Go.Proofs.YtpiihmbeedlpkaaGreatDoor
set_option maxRecDepth 100000
set_option maxHeartbeats 6400000
open Go.Lib (hid)
section
open Go.RowKit

theorem pFire_any (N : Nt) (A : Option Addr) (n c : Nat) (Am : Option Addr) (m cm : Nat) (M : List Int) (t : Int) (w : World) (h : NtIn w A N) (hn : N.tr.length = n) (hn2 : n ≤ 9223372036854775807) (hM : ZIn w Am M) (hm : M.length = m) (hm2 : m ≤ 9223372036854775807) :
 Calls Tryz.prog 68 #[.agg #[.int .i64 N.pl, .slice A n c, .int .i64 N.src, .int .i64 N.snk], .slice Am m cm, .int .i64 t] w (FvPo (fire21 N M t) w) := by
 have HB := hid (below_alloc w (.cells #[.int .i64 N.pl, .slice A n c, .int .i64 N.src, .int .i64 N.snk] 30));have HNb := hid (NB.new w N.pl A n c N.src N.snk);have HIn := hid (h.below HB.out);have HZ := hid (hM.below HB.out);have HM := hid hm;have HNl := hid hn;clear h hn hM hm;go_enter Tryz.func68, Tryz.ntmps68;go_wp2_with fail;generalize w.alloc _ = w0 at *;have HMk := hid (pmarking_any N A n c Am m cm M w0 HIn.out HNl.out hn2 HZ.out HM.out hm2);cases hk : mkB N M with
 | false =>
  rw [hk] at HMk;have HV := hid (show fire21 N M t = ([], 1) by unfold fire21; rw [hk]; rfl);((with_reducible refine HMk.out.mono ?_); rintro e w1 ⟨rfl, hb1⟩)
  have HFn := hid (below_then HB.out hb1);go_wp2_with fail;go_ret2;exact FvPo.no HV.out (by decide) rfl HFn.out
 | true =>
  rw [hk] at HMk;have HV := hid (show fire21 N M t = fireV N M t by unfold fire21; rw [hk]; rfl);have HMt := hid hk;((with_reducible refine HMk.out.mono ?_); rintro e w1 ⟨rfl, hb1⟩)
  have HB1 := hid (below_then HB.out hb1);have HFi := hid (pfire_any N A n c Am m cm M t w1 (HIn.out.below hb1) HNl.out (HZ.out.below hb1) HM.out HMt.out);obtain ⟨b0, b1, b2, b3⟩ := (HNb.out.below hb1).cells;clear hb1 hk;by_cases h0 : (fireV N M t).2 = 0
  · have HFy := hid (fv_yes HFi.out h0);have HE := hid (show fire21 N M t = ((fireV N M t).1, 0) by rw [HV.out, ← h0]);clear h0;go_wp2_with fail;((with_reducible refine HFy.out.mono ?_); rintro e w2 ⟨v, rfl, hS⟩)
    have HSf := hid (NS.up HB1.out hS);go_wp2_with fail;go_ret2;exact FvPo.yes HE.out rfl HSf.out
  · have HFn := hid (fv_no HFi.out h0);have HE := hid (show FvPo (fire21 N M t) w = FvPo ([], (fireV N M t).2) w by
     funext e w'
     rw [HV.out];unfold FvPo;simp only [if_neg h0])
    have H0 := hid h0;clear h0;generalize (fireV N M t).2 = er at *;go_wp2_with fail;((with_reducible refine HFn.out.mono ?_); rintro e w2 ⟨rfl, hb2⟩)
    have HFb := hid (below_then HB1.out hb2);go_wp2_with fail;go_ret2;rw [HE.out];exact FvPo.no rfl H0.out rfl HFb.out
end
section
open Go.RowKit Go.WideShapes

theorem conv_own (w : World) (B n cap : Nat) (a : Option Addr) (l : List UInt8) (hn : n = l.length) (hl : 0 < l.length) (h : w.ownsRow B 5 1 (.slice a n cap) n (Lib.byteCells l)) :
 (convert 125 9 (.slice a n cap)).run Tryz.prog w = .ok (.string ⟨l.toArray⟩) w := by
 rcases h.2 with ⟨hv, h0⟩ | ⟨g, cap', cur, hv, _, hh, hle, _, hsz, htk⟩
 · omega
 · injection hv with h1 _ h2;subst h1 h2 hn;refine run_convert_bytes_back w _ _ 5 ⟨g, 0, none⟩ cap l Tryz.underlying125 Tryz.underlying5 Tryz.underlying9 fun j hj => ?_
   have hg : w.cell? ⟨g, j, none⟩ = (Lib.byteCells l)[j]? := h.cellAt j (by omega);have e : (⟨g, 0, none⟩ : Addr).add j = ⟨g, j, none⟩ := by unfold Addr.add; split <;> simp_all
   rw [e, hg];simp [Lib.byteCells, List.getElem?_eq_getElem hj]
def RB (w wr : World) (v : Value) (acc : List UInt8) : Prop := wr.ownsRow w.heap.size 5 1 v acc.length (Lib.byteCells acc) ∧ Below w.heap.size w wr
theorem RB.own {w wr : World} {v : Value} {acc : List UInt8} (h : RB w wr v acc) : wr.ownsRow w.heap.size 5 1 v acc.length (Lib.byteCells acc) := h.1
theorem RB.size {w wr : World} {v : Value} {acc : List UInt8} (h : RB w wr v acc) : w.heap.size ≤ wr.heap.size := h.2.size
theorem RB.slice {w wr : World} {v : Value} {acc : List UInt8} (h : RB w wr v acc) : ∃ o c, v = .slice o acc.length c := by
 rcases h.own.2 with ⟨hv, hn⟩ | ⟨g, cap, cur, hv, _⟩
 · exact ⟨none, 0, by rw [hv, hn]⟩
 · exact ⟨_, _, hv⟩
theorem own_len (o : Option Addr) (n m c : Nat) : (Value.slice o n c).ownBlock = (Value.slice o m c).ownBlock := by cases o <;> rfl
theorem conv_all (w : World) (B n cap : Nat) (a : Option Addr) (l : List UInt8) (hn : n = l.length) (h : w.ownsRow B 5 1 (.slice a n cap) n (Lib.byteCells l)) :
 (convert 125 9 (.slice a n cap)).run Tryz.prog w = .ok (.string ⟨l.toArray⟩) w := by
 rcases Nat.eq_zero_or_pos l.length with h0 | h0
 · have hl : l = [] := List.eq_nil_of_length_eq_zero h0;subst hl;obtain rfl : n = 0 := hn;cases a <;> rfl
 · exact conv_own w B n cap a l hn h0 h

def okB (M : List Int) : Prop := (∀ x ∈ M, 0 ≤ x ∧ x ≤ 100) ∧ M.length ≤ 1000
theorem kb_byte {k : Int} (h0 : 0 ≤ k) (h1 : k ≤ 100) : ((UInt8.ofNat k.toNat).toNat : Int) = k := by
 simp [UInt8.toNat_ofNat']; omega
end
section
open Go.RowKit Go.WideShapes

def skL (M : List Int) : List UInt8 := M.flatMap fun k => [UInt8.ofNat k.toNat, 0]
theorem skL_inj : ∀ (a b : List Int), okB a → okB b → skL a = skL b → a = b := by
 have key : ∀ (a b : List Int), (∀ x ∈ a, 0 ≤ x ∧ x ≤ 100) → (∀ x ∈ b, 0 ≤ x ∧ x ≤ 100) → skL a = skL b → a = b := by
  intro a
  induction a with
  | nil =>
   intro b _ _ h;cases b with
   | nil => rfl
   | cons y b => simp [skL] at h
  | cons x a ih =>
   intro b ha hb h;cases b with
   | nil => simp [skL] at h
   | cons y b =>
    have h' : UInt8.ofNat x.toNat :: 0 :: skL a = UInt8.ofNat y.toNat :: 0 :: skL b := by simpa [skL] using h
    injection h' with h1 h2;injection h2 with _ h3;have hx := ha x (List.mem_cons_self ..);have hy := hb y (List.mem_cons_self ..);have e1 := kb_byte hx.1 hx.2;have e2 := kb_byte hy.1 hy.2;rw [h1] at e1;rw [ih b (fun z hz => ha z (List.mem_cons_of_mem _ hz)) (fun z hz => hb z (List.mem_cons_of_mem _ hz)) h3]
    congr 1
    omega
 intro a b ha hb h;exact key a b ha.1 hb.1 h
theorem skL_take (M : List Int) (k : Nat) (h : k < M.length) : skL (M.take (k + 1)) = skL (M.take k) ++ [UInt8.ofNat M[k].toNat, 0] := by
 unfold skL; rw [List.take_succ_eq_append_getElem h, List.flatMap_append]; simp
theorem skL_len (M : List Int) : (skL M).length = 2 * M.length := by
 induction M with
 | nil => rfl
 | cons x M ih =>
  have e : skL (x :: M) = UInt8.ofNat x.toNat :: 0 :: skL M := by simp [skL]
  rw [e, List.length_cons, List.length_cons, ih, List.length_cons]; omega
theorem RB.push2 {w wr w' : World} {v v' : Value} {acc : List UInt8} {c d : UInt8} {o : Obj} (h : RB w wr v acc) (ho : w'.ownsRow w.heap.size 5 1 v' (acc.length + 2) (Lib.byteCells acc ++ [.int .u8 (c.toNat : Int), .int .u8 (d.toNat : Int)])) {row : Option Nat} (hg : (wr.alloc o).grownBy w' row) (hr : row = v.ownBlock) : RB w w' v' (acc ++ [c, d]) := by
 subst hr;refine ⟨?_, ?_⟩
 · simpa [Lib.byteCells] using ho
 · exact (h.2.alloc h.2.size o).grown hg (by have := h.2.size; simp; omega) (fun k hk => (h.1.lt k hk).1)
theorem skey_any (A : Option Addr) (n c : Nat) (M : List Int) (w : World) (h : ZIn w A M) (hn : M.length = n) (hM : okB M) :
 Calls Tryz.prog 67 #[.slice A n c] w fun e w' => e = .returned (.string ⟨(skL M).toArray⟩) ∧ Below w.heap.size w w' := by
 obtain ⟨i0, hi, hz0, hz1, hz2⟩ := info_parts byteInfo;have HI := hid (And.intro hi (And.intro hz0 (And.intro hz1 hz2)));have HZ := hid h;have HN := hid hn;have HOk := hid hM.1;have hb : n ≤ 1000 := by have := hM.2; omega
 have hb2 : (2 : Int) * (n : Int) ≤ 2000 := by omega
 have hb3 : (0 : Int) ≤ 2 * (n : Int) := by omega
 have hb4 : IntKind.i64.wrap (2 * (n : Int)) = 2 * (n : Int) := IntWalk.i64_in _ (by omega);obtain ⟨w1, hmk, hown, hgr⟩ := run_make_own (P := Tryz.prog) w w.heap.size 125 5 i0 (.int .u8 0) 1 Tryz.underlying125 HI.out.1 HI.out.2.1 HI.out.2.2.1 .i64 .i64 (2 * n) (by rw [HI.out.2.2.2]; omega) (by unfold maxLen; omega) (Nat.le_refl _);rw [show ((2 * n : Nat) : Int) = 2 * (n : Int) by omega] at hmk;clear hi hz0 hz1 hz2 h hn hM;go_enter Tryz.func67, Tryz.ntmps67;go_wp2_with fail;have H0 := hid (show RB w w1 (.slice (some ⟨w.heap.size, 0, none⟩) 0 (2 * n)) [] from ⟨hown, ⟨hgr.os, hgr.tape, hgr.output, hgr.size, fun i hi => hgr.block i hi (by simp)⟩⟩);clear hmk hown hgr hb2 hb3 hb4;go_loopg [12, 3] (n) (fun g iv v wr => ∃ k : Nat, k + g = n ∧ iv = .int .i64 k ∧ RB w wr v (skL (M.take k)));case atStart => exact ⟨0, by omega, rfl, H0.out⟩
 case round =>
  clear H0;obtain ⟨k, hk, rfl, hR⟩ := hrel;have HK := hid hk;have HS := hid hR;have HZr := hid (HZ.out.below hR.2);obtain ⟨vo, vc, rfl⟩ := hR.slice;have hle : k ≤ n := by omega
  have HLk := hid (show (skL (M.take k)).length = 2 * k by rw [skL_len, List.length_take, HN.out]; omega);have hla : (skL (M.take k)).length ≤ 2000 := by rw [HLk.out]; omega
  clear hk hR;by_cases hlt : k < n
  · have hlt' : k < M.length := by rw [HN.out]; exact hlt
    obtain ⟨ad, rfl, hpa, q0⟩ := HZr.out k hlt';have HT := hid (skL_take M k hlt');obtain ⟨hx0, hx1⟩ := HOk.out _ (List.getElem_mem hlt');have hxb := kb_byte hx0 hx1;generalize M[k] = x at *;generalize UInt8.ofNat x.toNat = b at *;subst hxb;clear hlt';generalize skL (M.take k) = acc at *;have hb0 : (0 : Int) ≤ (b.toNat : Int) := by omega
    have hb9 : (b.toNat : Int) < 256 := by omega
    have hsh : (b.toNat : Int) / 256 = 0 := by omega
    clear HLk;go_wp2_with (at_builtin; refine wpList_append_own _ rfl _ _ 125 rfl w.heap.size 5 i0 (.int .u8 0) 1 1 Tryz.underlying125 HI.out.1 HI.out.2.1 HI.out.2.2.1 HI.out.2.2.2 rfl (by decide) (.slice vo acc.length vc) _ _ rfl (HS.out.own.alloc _) ⟨wr.heap.size, 0, none⟩ 2 2 [.int .u8 (b.toNat : Int), .int .u8 0] rfl rfl ?c1 ?c2 ?c3 ?c4 ?c5 ?_);case c1 => exact news_blk (heap_alloc_new wr (.cells #[.int .u8 (b.toNat : Int), .int .u8 0] 5))
    case c2 => intro u hu; simp at hu; rcases hu with rfl | rfl <;> rfl
    case c3 => unfold maxLen; omega
    case c4 => omega
    case c5 => have := HS.out.size; simp; omega
    intro vN w2 hown hgrow _;replace HS := hid (HS.out.push2 (c := b) (d := 0) (by simpa using hown) hgrow (own_len _ _ _ _));clear hown hgrow;obtain ⟨vo, vc, rfl⟩ := HS.out.slice;go_wp2_with fail;go_roundg (gk - 1);case measure => have := HK.out; omega
    case rel => exact ⟨k + 1, by have := HK.out; omega, by go_num, by rw [HT.out]; simpa using HS.out⟩
  · have HE := hid (show skL (M.take k) = skL M by rw [List.take_of_length_le (by rw [HN.out]; omega)]);rw [HE.out] at HS ⊢;clear HE HLk hla;have HCV := hid (conv_all wr w.heap.size (skL M).length vc vo (skL M) rfl HS.out.own);generalize hacc : skL M = acc at *;have HA := hid hacc;clear hacc;go_wp2_with fail;rw [HCV.out];simp only [Result.andThen];rw [Oper.upon_value];go_wp2_with fail;go_ret;exact ⟨ret_str (by rw [HA.out]), HS.out.2⟩
def slit (z : List Int) : Lit := .string (skL z)
theorem slit_inj {a b : List Int} (ha : okB a) (hb : okB b) (h : slit a = slit b) : a = b := by unfold slit at h; injection h with h; exact skL_inj a b ha hb h
theorem slit_key {z : List Int} (h : okB z) : keyOf Tryz.prog 9 (.string ⟨(skL z).toArray⟩) = some (slit z) := by
 have := skL_len z;exact WideMaps.keyOf_string_mk Tryz.underlying9 (by have h2 := h.2; unfold maxLen; simp [ByteArray.size]; omega)
theorem slit_is (z : List Int) : WideAt.IsKeyLit (slit z) := trivial
def KS (w : World) (mb : Nat) (L : List (List Int)) : Prop :=
 ∃ (n : Nat) (D : DataW Unit), w.ownsMap Tryz.prog 9 (plainElem Tryz.prog 3) mb n D ∧ n ≤ L.length ∧ L.length ≤ 1000000 ∧ (∀ z ∈ L, okB z) ∧ (∀ z, okB z → Maps.has D (slit z) = decide (z ∈ L)) ∧ ∀ (k : Nat) (z : List Int), L[k]? = some z → ∀ zd, D.atKey (slit z) zd = .lit (.int .i64 (k : Int))
theorem KS.made (w : World) : KS (w.alloc (.map #[] 0)) w.heap.size [] :=
 ⟨0, .map [], World.ownsMap_made _ _ _ _, Nat.le_refl _, by simp, fun z h => (by cases h), fun z _ => rfl, fun k z h => by simp at h⟩
theorem KS.grown {w w' : World} {mb : Nat} {L : List (List Int)} {row : Option Nat} (h : KS w mb L) (hg : w.grownBy w' row) (hne : some mb ≠ row) : KS w' mb L := by
 obtain ⟨n, D, h1, h2⟩ := h;exact ⟨n, D, h1.kept hg hne, h2⟩
theorem KS.below {w w' : World} {mb : Nat} {L : List (List Int)} (h : KS w mb L) (hb : Below w.heap.size w w') : KS w' mb L := by
 obtain ⟨n, D, h1, h2⟩ := h;have hlt := h1.lt;obtain ⟨es, clock, hb', r⟩ := h1;exact ⟨n, D, ⟨es, clock, by rw [hb.block mb hlt]; exact hb', r⟩, h2⟩
theorem KS.look {w : World} {mb : Nat} {L : List (List Int)} (h : KS w mb L) {z : List Int} (hz : okB z) (c0 : Int) (hc0 : ∀ k : Nat, L[k]? = some z → c0 = k) (h0 : z ∉ L → c0 = 0) :
 (Instr.lookup 115 (.map (some mb)) (.string ⟨(skL z).toArray⟩) true).run Tryz.prog w = .ok (.tuple #[.int .i64 c0, .bool (decide (z ∈ L))]) w := by
 obtain ⟨n, D, h1, h2, _, _, h3, h4⟩ := h;obtain ⟨v, ps, hrun, hR⟩ := h1.look_ok (Maps.string_keyed Tryz.underlying9) Tryz.underlying115 (zeroInt w) (plainElem_int Tryz.underlying3 (by decide)) (slit_key hz);rw [hrun, h3 z hz];have hv : v = .int .i64 c0 := by
  obtain ⟨c, rfl, hc, _⟩ := plainElem_int_inv Tryz.underlying3 hR;simp only [Prod.mk.injEq] at hc;by_cases hm : z ∈ L
  · obtain ⟨k, hk, e⟩ := List.getElem_of_mem hm;have hk' : L[k]? = some z := by rw [List.getElem?_eq_getElem hk, e]
    rw [h4 k z hk'] at hc;rw [hc0 k hk', lit_inj hc.1]
  · have : D.atKey (slit z) (.lit (.int .i64 0)) = .lit (.int .i64 0) := Maps.atKey_of_not_has (by rw [h3 z hz]; simpa using hm) _;rw [this] at hc;rw [h0 hm, lit_inj hc.1]
 rw [hv]
theorem KS.store {w : World} {mb : Nat} {L : List (List Int)} (h : KS w mb L) {z : List Int} (hz : okB z) (hm : z ∉ L) (hl : L.length < 1000000) :
 ∃ w', (Instr.mapUpdate 115 (.map (some mb)) (.string ⟨(skL z).toArray⟩) (.int .i64 (L.length : Int))).run Tryz.prog w = .ok () w' ∧ KS w' mb (L ++ [z]) ∧ w.grownBy w' (some mb) := by
 obtain ⟨n, D, h1, h2, h2', hok, h3, h4⟩ := h;have hwf : (Lit.int IntKind.i64 (L.length : Int)).wf = true := by simp [Lit.wf, IntKind.min, IntKind.max, IntKind.bits, IntKind.signed]; omega
 obtain ⟨w', hrun, hown, hgr⟩ := h1.update (Maps.string_keyed Tryz.underlying9) Tryz.underlying115 (by unfold maxLen; omega) (slit_key hz) (plainElem_int Tryz.underlying3 hwf);have hI : Maps.IsMap D := h1.isMap;refine ⟨w', hrun, ⟨n + 1, _, hown, by rw [List.length_append]; simp; omega, by rw [List.length_append]; simp; omega, fun y hy => ?_, fun y hy => ?_, fun k y hk zd => ?_⟩, hgr⟩
 · rcases List.mem_append.1 hy with e | e
   · exact hok y e
   · simp at e; subst e; exact hz
 · by_cases e : y = z
   · subst e;rw [Maps.has_put_same hI (slit_is _)]; simp
   · rw [Maps.has_put_other (fun h => e (slit_inj hy hz h)), h3 y hy]; simp [e]
 · by_cases e : y = z
   · subst e;rw [Maps.atKey_put_same hI (slit_is _)];have : k = L.length := by
      rcases Nat.lt_or_ge k L.length with hlt | hge
      · rw [List.getElem?_append_left hlt] at hk;exact absurd (List.mem_of_getElem? hk) hm
      · rcases Nat.eq_zero_or_pos (k - L.length) with h0 | h0
        · omega
        · rw [List.getElem?_append_right hge, List.getElem?_eq_none (by simp; omega)] at hk; cases hk
     rw [this]
   · have hyL : L[k]? = some y := by
      rcases Nat.lt_or_ge k L.length with hlt | hge
      · rwa [List.getElem?_append_left hlt] at hk
      · rw [List.getElem?_append_right hge] at hk;rcases Nat.eq_zero_or_pos (k - L.length) with h0 | h0
        · rw [h0] at hk; simp at hk; exact absurd hk.symm e
        · rw [List.getElem?_eq_none (by simp; omega)] at hk; cases hk
     rw [Maps.atKey_put_other (fun h => e (slit_inj (hok y (List.mem_of_getElem? hyL)) hz h))];exact h4 k y hyL zd
end
end Go.Proofs.YtpiihmbeedlpkaaGreatDoor
