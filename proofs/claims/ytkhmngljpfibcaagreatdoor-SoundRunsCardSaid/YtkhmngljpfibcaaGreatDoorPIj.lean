/- IndexFunc and ContainsFunc on lists of lists; none, fits of the statements: what a call returns. verdict: marking, markings, enabled: what a call returns. verdict: fire, most, one, index: what a call returns. verdict.key: what a call returns; sets of markings by these keys. space.key: what a call returns; maps from these keys to the markings' places. The certificates of Bounded prove their claims: plain. -/
import Derived.Test.YtkhmngljpfibcaaGreatDoorPUu
import Derived.Test.YtkhmngljpfibcaaGreatDoorPHg
import Derived.Test.YtkhmngljpfibcaaGreatDoorPCn
import Derived.Test.YtkhmngljpfibcaaGreatDoorPCp
import Derived.Test.YtkhmngljpfibcaaGreatDoorPIf
import Derived.Test.YtkhmngljpfibcaaGreatDoorPDg
import Derived.Deep.OwnRows
import Derived.Laws.IdiomStrings
import Derived.Lib.ItoaLen
namespace Go.Proofs.YtkhmngljpfibcaaGreatDoor
set_option maxRecDepth 100000
set_option maxHeartbeats 3200000
open Go.Lib (hid)
section
open Go.RowKit

def lidx (p : List Int → Bool) (L : List (List Int)) : Int := if L.findIdx p = L.length then -1 else ((L.findIdx p : Nat) : Int)
theorem lidx_at {p : List Int → Bool} {L : List (List Int)} {k : Nat} (h : k < L.length) (hp : p L[k] = true) (hno : ∀ s ∈ L.take k, p s = false) : lidx p L = (k : Int) := by
 have e : L.findIdx p = k := by
  rw [List.findIdx_eq h];exact ⟨hp, fun j hj => hno _ (by rw [List.mem_take_iff_getElem]; exact ⟨j, by omega, rfl⟩)⟩
 unfold lidx;rw [e, if_neg (by omega)]
theorem lidx_no {p : List Int → Bool} {L : List (List Int)} (h : ∀ s ∈ L, p s = false) : lidx p L = -1 := by
 unfold lidx;rw [if_pos (List.findIdx_eq_length_of_false h)]
theorem lidx_any (p : List Int → Bool) (L : List (List Int)) : decide (0 ≤ lidx p L) = L.any p := by
 rw [Bool.eq_iff_iff, decide_eq_true_eq, List.any_eq_true];constructor
 · intro h;apply Classical.byContradiction;intro hno;rw [lidx_no (fun s hs => by
    cases hv : p s with
    | false => rfl
    | true => exact absurd ⟨s, hs, hv⟩ hno)] at h
   omega
 · rintro ⟨s, hs, hp⟩;have := List.findIdx_lt_length_of_exists ⟨s, hs, hp⟩;unfold lidx;rw [if_neg (by omega)]; omega
def longM (s : List Int) : Bool := decide (40 < s.length)
def fitB (C : Ct) : Bool := decide (C.run.length ≤ 1000) && (decide (C.pump.length ≤ 1000) && (decide (C.marks.length ≤ 300) && !C.marks.any longM))
end
section
open Go.RowKit

def badX (ext : Bool) (k : Int) : Bool := (decide (k < 0) || decide (100 < k)) && !(ext && decide (k = -1))
def mkX (pl : Int) (ext : Bool) (m : List Int) : Bool := decide ((m.length : Int) = pl) && !(m.any (badX ext))
def mksX (pl : Int) (ext : Bool) (L : List (List Int)) : Bool := L.all (mkX pl ext)
end
section
open Go.RowKit

theorem mk_ints (n : Nat) (hn : n ≤ 1000000) (w : World) : (Instr.makeSlice 27 (.int .i64 (n : Int)) (.int .i64 (n : Int))).run Tryz.prog w = .ok (.slice (some ⟨w.heap.size, 0, none⟩) n n) (w.alloc (.cells (madeCells #[.int .i64 0] n) 3)) := run_make_row' 27 3 (.int .i64 0) 8 Tryz.underlying27 intInfo rfl .i64 .i64 n (by omega) (by omega) w
def oneM (pl : Nat) (p : Nat) : List Int := (List.replicate pl (0 : Int)).set p 1
theorem oneM_len (pl p : Nat) : (oneM pl p).length = pl := by simp [oneM]
theorem NS.one1 (w : World) (n p : Nat) (hn : n ≤ 1000000) : NS w (w.alloc (.cells ((madeCells #[.int .i64 0] n).setIfInBounds p (.int .i64 1)) 3)) (.slice (some ⟨w.heap.size, 0, none⟩) n n) (oneM n p) := by
 have e : ((madeCells #[Value.int .i64 0] n).setIfInBounds p (.int .i64 1)).toList = (oneM n p).map (Value.int .i64) := by
  rw [Array.toList_setIfInBounds, toList_madeCells_one];unfold oneM;rw [List.map_set, List.map_replicate]
 have ho := World.ownsRow_lit (base := w.heap.size) (e := 3) (size := 1) w ((madeCells #[.int .i64 0] n).setIfInBounds p (.int .i64 1)) n (Nat.le_refl _) (by unfold maxLen; omega) (by simp [madeCells]);rw [e] at ho;exact ⟨by rw [oneM_len]; exact ho, below_alloc w _⟩
def isL (X s : List Int) : Bool := decide (s = X)
end
section
open Go.RowKit Go.WideShapes

theorem conv_own (w : World) (B n cap : Nat) (a : Option Addr) (l : List UInt8) (hn : n = l.length) (hl : 0 < l.length) (h : w.ownsRow B 5 1 (.slice a n cap) n (Lib.byteCells l)) :
 (convert 145 9 (.slice a n cap)).run Tryz.prog w = .ok (.string ⟨l.toArray⟩) w := by
 rcases h.2 with ⟨hv, h0⟩ | ⟨g, cap', cur, hv, _, hh, hle, _, hsz, htk⟩
 · omega
 · injection hv with h1 _ h2;subst h1 h2 hn;refine run_convert_bytes_back w _ _ 5 ⟨g, 0, none⟩ cap l Tryz.underlying145 Tryz.underlying5 Tryz.underlying9 fun j hj => ?_
   have hg : w.cell? ⟨g, j, none⟩ = (Lib.byteCells l)[j]? := h.cellAt j (by omega);have e : (⟨g, 0, none⟩ : Addr).add j = ⟨g, j, none⟩ := by unfold Addr.add; split <;> simp_all
   rw [e, hg];simp [Lib.byteCells, List.getElem?_eq_getElem hj]
def RB (w wr : World) (v : Value) (acc : List UInt8) : Prop := wr.ownsRow w.heap.size 5 1 v acc.length (Lib.byteCells acc) ∧ Below w.heap.size w wr
theorem RB.own {w wr : World} {v : Value} {acc : List UInt8} (h : RB w wr v acc) : wr.ownsRow w.heap.size 5 1 v acc.length (Lib.byteCells acc) := h.1
theorem RB.size {w wr : World} {v : Value} {acc : List UInt8} (h : RB w wr v acc) : w.heap.size ≤ wr.heap.size := h.2.size
theorem RB.slice {w wr : World} {v : Value} {acc : List UInt8} (h : RB w wr v acc) : ∃ o c, v = .slice o acc.length c := by
 rcases h.own.2 with ⟨hv, hn⟩ | ⟨g, cap, cur, hv, _⟩
 · exact ⟨none, 0, by rw [hv, hn]⟩
 · exact ⟨_, _, hv⟩
theorem own_len (o : Option Addr) (n m c : Nat) : (Value.slice o n c).ownBlock = (Value.slice o m c).ownBlock := by cases o <;> rfl
theorem conv_all (w : World) (B n cap : Nat) (a : Option Addr) (l : List UInt8) (hn : n = l.length) (h : w.ownsRow B 5 1 (.slice a n cap) n (Lib.byteCells l)) :
 (convert 145 9 (.slice a n cap)).run Tryz.prog w = .ok (.string ⟨l.toArray⟩) w := by
 rcases Nat.eq_zero_or_pos l.length with h0 | h0
 · have hl : l = [] := List.eq_nil_of_length_eq_zero h0;subst hl;obtain rfl : n = 0 := hn;cases a <;> rfl
 · exact conv_own w B n cap a l hn h0 h

def okB (M : List Int) : Prop := (∀ x ∈ M, 0 ≤ x ∧ x ≤ 100) ∧ M.length ≤ 1000
theorem kb_byte {k : Int} (h0 : 0 ≤ k) (h1 : k ≤ 100) : ((UInt8.ofNat k.toNat).toNat : Int) = k := by
 simp [UInt8.toNat_ofNat']; omega
end
section
open Go.RowKit Go.WideShapes

def skL (M : List Int) : List UInt8 := M.flatMap fun k => [UInt8.ofNat k.toNat, 0]
theorem skL_inj : ∀ (a b : List Int), okB a → okB b → skL a = skL b → a = b := by
 have key : ∀ (a b : List Int), (∀ x ∈ a, 0 ≤ x ∧ x ≤ 100) → (∀ x ∈ b, 0 ≤ x ∧ x ≤ 100) → skL a = skL b → a = b := by
  intro a
  induction a with
  | nil =>
   intro b _ _ h;cases b with
   | nil => rfl
   | cons y b => simp [skL] at h
  | cons x a ih =>
   intro b ha hb h;cases b with
   | nil => simp [skL] at h
   | cons y b =>
    have h' : UInt8.ofNat x.toNat :: 0 :: skL a = UInt8.ofNat y.toNat :: 0 :: skL b := by simpa [skL] using h
    injection h' with h1 h2;injection h2 with _ h3;have hx := ha x (List.mem_cons_self ..);have hy := hb y (List.mem_cons_self ..);have e1 := kb_byte hx.1 hx.2;have e2 := kb_byte hy.1 hy.2;rw [h1] at e1;rw [ih b (fun z hz => ha z (List.mem_cons_of_mem _ hz)) (fun z hz => hb z (List.mem_cons_of_mem _ hz)) h3]
    congr 1
    omega
 intro a b ha hb h;exact key a b ha.1 hb.1 h
theorem skL_take (M : List Int) (k : Nat) (h : k < M.length) : skL (M.take (k + 1)) = skL (M.take k) ++ [UInt8.ofNat M[k].toNat, 0] := by
 unfold skL; rw [List.take_succ_eq_append_getElem h, List.flatMap_append]; simp
theorem skL_len (M : List Int) : (skL M).length = 2 * M.length := by
 induction M with
 | nil => rfl
 | cons x M ih =>
  have e : skL (x :: M) = UInt8.ofNat x.toNat :: 0 :: skL M := by simp [skL]
  rw [e, List.length_cons, List.length_cons, ih, List.length_cons]; omega
theorem RB.push2 {w wr w' : World} {v v' : Value} {acc : List UInt8} {c d : UInt8} {o : Obj} (h : RB w wr v acc) (ho : w'.ownsRow w.heap.size 5 1 v' (acc.length + 2) (Lib.byteCells acc ++ [.int .u8 (c.toNat : Int), .int .u8 (d.toNat : Int)])) {row : Option Nat} (hg : (wr.alloc o).grownBy w' row) (hr : row = v.ownBlock) : RB w w' v' (acc ++ [c, d]) := by
 subst hr;refine ⟨?_, ?_⟩
 · simpa [Lib.byteCells] using ho
 · exact (h.2.alloc h.2.size o).grown hg (by have := h.2.size; simp; omega) (fun k hk => (h.1.lt k hk).1)
theorem skey_any (A : Option Addr) (n c : Nat) (M : List Int) (w : World) (h : ZIn w A M) (hn : M.length = n) (hM : okB M) :
 Calls Tryz.prog 141 #[.slice A n c] w fun e w' => e = .returned (.string ⟨(skL M).toArray⟩) ∧ Below w.heap.size w w' := by
 obtain ⟨i0, hi, hz0, hz1, hz2⟩ := info_parts byteInfo;have HI := hid (And.intro hi (And.intro hz0 (And.intro hz1 hz2)));have HZ := hid h;have HN := hid hn;have HOk := hid hM.1;have hb : n ≤ 1000 := by have := hM.2; omega
 have hb2 : (2 : Int) * (n : Int) ≤ 2000 := by omega
 have hb3 : (0 : Int) ≤ 2 * (n : Int) := by omega
 have hb4 : IntKind.i64.wrap (2 * (n : Int)) = 2 * (n : Int) := IntWalk.i64_in _ (by omega);obtain ⟨w1, hmk, hown, hgr⟩ := run_make_own (P := Tryz.prog) w w.heap.size 145 5 i0 (.int .u8 0) 1 Tryz.underlying145 HI.out.1 HI.out.2.1 HI.out.2.2.1 .i64 .i64 (2 * n) (by rw [HI.out.2.2.2]; omega) (by unfold maxLen; omega) (Nat.le_refl _);rw [show ((2 * n : Nat) : Int) = 2 * (n : Int) by omega] at hmk;clear hi hz0 hz1 hz2 h hn hM;go_enter Tryz.func141, Tryz.ntmps141;go_wp2_with fail;have H0 := hid (show RB w w1 (.slice (some ⟨w.heap.size, 0, none⟩) 0 (2 * n)) [] from ⟨hown, ⟨hgr.os, hgr.tape, hgr.output, hgr.size, fun i hi => hgr.block i hi (by simp)⟩⟩);clear hmk hown hgr hb2 hb3 hb4;go_loopg [12, 3] (n) (fun g iv v wr => ∃ k : Nat, k + g = n ∧ iv = .int .i64 k ∧ RB w wr v (skL (M.take k)));case atStart => exact ⟨0, by omega, rfl, H0.out⟩
 case round =>
  clear H0;obtain ⟨k, hk, rfl, hR⟩ := hrel;have HK := hid hk;have HS := hid hR;have HZr := hid (HZ.out.below hR.2);obtain ⟨vo, vc, rfl⟩ := hR.slice;have hle : k ≤ n := by omega
  have HLk := hid (show (skL (M.take k)).length = 2 * k by rw [skL_len, List.length_take, HN.out]; omega);have hla : (skL (M.take k)).length ≤ 2000 := by rw [HLk.out]; omega
  clear hk hR;by_cases hlt : k < n
  · have hlt' : k < M.length := by rw [HN.out]; exact hlt
    obtain ⟨ad, rfl, hpa, q0⟩ := HZr.out k hlt';have HT := hid (skL_take M k hlt');obtain ⟨hx0, hx1⟩ := HOk.out _ (List.getElem_mem hlt');have hxb := kb_byte hx0 hx1;generalize M[k] = x at *;generalize UInt8.ofNat x.toNat = b at *;subst hxb;clear hlt';generalize skL (M.take k) = acc at *;have hb0 : (0 : Int) ≤ (b.toNat : Int) := by omega
    have hb9 : (b.toNat : Int) < 256 := by omega
    have hsh : (b.toNat : Int) / 256 = 0 := by omega
    clear HLk;go_wp2_with (at_builtin; refine wpList_append_own _ rfl _ _ 145 rfl w.heap.size 5 i0 (.int .u8 0) 1 1 Tryz.underlying145 HI.out.1 HI.out.2.1 HI.out.2.2.1 HI.out.2.2.2 rfl (by decide) (.slice vo acc.length vc) _ _ rfl (HS.out.own.alloc _) ⟨wr.heap.size, 0, none⟩ 2 2 [.int .u8 (b.toNat : Int), .int .u8 0] rfl rfl ?c1 ?c2 ?c3 ?c4 ?c5 ?_);case c1 => exact news_blk (heap_alloc_new wr (.cells #[.int .u8 (b.toNat : Int), .int .u8 0] 5))
    case c2 => intro u hu; simp at hu; rcases hu with rfl | rfl <;> rfl
    case c3 => unfold maxLen; omega
    case c4 => omega
    case c5 => have := HS.out.size; simp; omega
    intro vN w2 hown hgrow _;replace HS := hid (HS.out.push2 (c := b) (d := 0) (by simpa using hown) hgrow (own_len _ _ _ _));clear hown hgrow;obtain ⟨vo, vc, rfl⟩ := HS.out.slice;go_wp2_with fail;go_roundg (gk - 1);case measure => have := HK.out; omega
    case rel => exact ⟨k + 1, by have := HK.out; omega, by go_num, by rw [HT.out]; simpa using HS.out⟩
  · have HE := hid (show skL (M.take k) = skL M by rw [List.take_of_length_le (by rw [HN.out]; omega)]);rw [HE.out] at HS ⊢;clear HE HLk hla;have HCV := hid (conv_all wr w.heap.size (skL M).length vc vo (skL M) rfl HS.out.own);generalize hacc : skL M = acc at *;have HA := hid hacc;clear hacc;go_wp2_with fail;rw [HCV.out];simp only [Result.andThen];rw [Oper.upon_value];go_wp2_with fail;go_ret;exact ⟨ret_str (by rw [HA.out]), HS.out.2⟩
def slit (z : List Int) : Lit := .string (skL z)
theorem slit_inj {a b : List Int} (ha : okB a) (hb : okB b) (h : slit a = slit b) : a = b := by unfold slit at h; injection h with h; exact skL_inj a b ha hb h
theorem slit_key {z : List Int} (h : okB z) : keyOf Tryz.prog 9 (.string ⟨(skL z).toArray⟩) = some (slit z) := by
 have := skL_len z;exact WideMaps.keyOf_string_mk Tryz.underlying9 (by have h2 := h.2; unfold maxLen; simp [ByteArray.size]; omega)
theorem slit_is (z : List Int) : WideAt.IsKeyLit (slit z) := trivial
def KS (w : World) (mb : Nat) (L : List (List Int)) : Prop :=
 ∃ (n : Nat) (D : DataW Unit), w.ownsMap Tryz.prog 9 (plainElem Tryz.prog 3) mb n D ∧ n ≤ L.length ∧ L.length ≤ 1000000 ∧ (∀ z ∈ L, okB z) ∧ (∀ z, okB z → Maps.has D (slit z) = decide (z ∈ L)) ∧ ∀ (k : Nat) (z : List Int), L[k]? = some z → ∀ zd, D.atKey (slit z) zd = .lit (.int .i64 (k : Int))
theorem KS.made (w : World) : KS (w.alloc (.map #[] 0)) w.heap.size [] :=
 ⟨0, .map [], World.ownsMap_made _ _ _ _, Nat.le_refl _, by simp, fun z h => (by cases h), fun z _ => rfl, fun k z h => by simp at h⟩
theorem KS.grown {w w' : World} {mb : Nat} {L : List (List Int)} {row : Option Nat} (h : KS w mb L) (hg : w.grownBy w' row) (hne : some mb ≠ row) : KS w' mb L := by
 obtain ⟨n, D, h1, h2⟩ := h;exact ⟨n, D, h1.kept hg hne, h2⟩
theorem KS.below {w w' : World} {mb : Nat} {L : List (List Int)} (h : KS w mb L) (hb : Below w.heap.size w w') : KS w' mb L := by
 obtain ⟨n, D, h1, h2⟩ := h;have hlt := h1.lt;obtain ⟨es, clock, hb', r⟩ := h1;exact ⟨n, D, ⟨es, clock, by rw [hb.block mb hlt]; exact hb', r⟩, h2⟩
theorem KS.look {w : World} {mb : Nat} {L : List (List Int)} (h : KS w mb L) {z : List Int} (hz : okB z) (c0 : Int) (hc0 : ∀ k : Nat, L[k]? = some z → c0 = k) (h0 : z ∉ L → c0 = 0) :
 (Instr.lookup 176 (.map (some mb)) (.string ⟨(skL z).toArray⟩) true).run Tryz.prog w = .ok (.tuple #[.int .i64 c0, .bool (decide (z ∈ L))]) w := by
 obtain ⟨n, D, h1, h2, _, _, h3, h4⟩ := h;obtain ⟨v, ps, hrun, hR⟩ := h1.look_ok (Maps.string_keyed Tryz.underlying9) Tryz.underlying176 (zeroInt w) (plainElem_int Tryz.underlying3 (by decide)) (slit_key hz);rw [hrun, h3 z hz];have hv : v = .int .i64 c0 := by
  obtain ⟨c, rfl, hc, _⟩ := plainElem_int_inv Tryz.underlying3 hR;simp only [Prod.mk.injEq] at hc;by_cases hm : z ∈ L
  · obtain ⟨k, hk, e⟩ := List.getElem_of_mem hm;have hk' : L[k]? = some z := by rw [List.getElem?_eq_getElem hk, e]
    rw [h4 k z hk'] at hc;rw [hc0 k hk', lit_inj hc.1]
  · have : D.atKey (slit z) (.lit (.int .i64 0)) = .lit (.int .i64 0) := Maps.atKey_of_not_has (by rw [h3 z hz]; simpa using hm) _;rw [this] at hc;rw [h0 hm, lit_inj hc.1]
 rw [hv]
theorem KS.store {w : World} {mb : Nat} {L : List (List Int)} (h : KS w mb L) {z : List Int} (hz : okB z) (hm : z ∉ L) (hl : L.length < 1000000) :
 ∃ w', (Instr.mapUpdate 176 (.map (some mb)) (.string ⟨(skL z).toArray⟩) (.int .i64 (L.length : Int))).run Tryz.prog w = .ok () w' ∧ KS w' mb (L ++ [z]) ∧ w.grownBy w' (some mb) := by
 obtain ⟨n, D, h1, h2, h2', hok, h3, h4⟩ := h;have hwf : (Lit.int IntKind.i64 (L.length : Int)).wf = true := by simp [Lit.wf, IntKind.min, IntKind.max, IntKind.bits, IntKind.signed]; omega
 obtain ⟨w', hrun, hown, hgr⟩ := h1.update (Maps.string_keyed Tryz.underlying9) Tryz.underlying176 (by unfold maxLen; omega) (slit_key hz) (plainElem_int Tryz.underlying3 hwf);have hI : Maps.IsMap D := h1.isMap;refine ⟨w', hrun, ⟨n + 1, _, hown, by rw [List.length_append]; simp; omega, by rw [List.length_append]; simp; omega, fun y hy => ?_, fun y hy => ?_, fun k y hk zd => ?_⟩, hgr⟩
 · rcases List.mem_append.1 hy with e | e
   · exact hok y e
   · simp at e; subst e; exact hz
 · by_cases e : y = z
   · subst e;rw [Maps.has_put_same hI (slit_is _)]; simp
   · rw [Maps.has_put_other (fun h => e (slit_inj hy hz h)), h3 y hy]; simp [e]
 · by_cases e : y = z
   · subst e;rw [Maps.atKey_put_same hI (slit_is _)];have : k = L.length := by
      rcases Nat.lt_or_ge k L.length with hlt | hge
      · rw [List.getElem?_append_left hlt] at hk;exact absurd (List.mem_of_getElem? hk) hm
      · rcases Nat.eq_zero_or_pos (k - L.length) with h0 | h0
        · omega
        · rw [List.getElem?_append_right hge, List.getElem?_eq_none (by simp; omega)] at hk; cases hk
     rw [this]
   · have hyL : L[k]? = some y := by
      rcases Nat.lt_or_ge k L.length with hlt | hge
      · rwa [List.getElem?_append_left hlt] at hk
      · rw [List.getElem?_append_right hge] at hk;rcases Nat.eq_zero_or_pos (k - L.length) with h0 | h0
        · rw [h0] at hk; simp at hk; exact absurd hk.symm e
        · rw [List.getElem?_eq_none (by simp; omega)] at hk; cases hk
     rw [Maps.atKey_put_other (fun h => e (slit_inj (hok y (List.mem_of_getElem? hyL)) hz h))];exact h4 k y hyL zd
end
section
theorem addN_le {most : Nat} {T T' : TS} {x : Nd} (h : addN most T x = some T') (hl : T.states.length ≤ most) : T'.states.length ≤ most := by
 unfold addN at h;split at h
 · split at h
   · cases h
   · split at h
     · cases h
     · cases h; simp; omega
 · split at h
   · cases h
   · cases h; exact hl
theorem stepK_le {N : Nt} {most i k : Nat} {T T' : TS} (h : stepK N most i T k = some T') (hl : T.states.length ≤ most) : T'.states.length ≤ most := by
 unfold stepK at h;split at h
 · split at h
   · split at h
     · cases h
     · exact addN_le h hl
   · cases h; exact hl
 · cases h; exact hl
theorem stepI_le {N : Nt} {most i : Nat} : ∀ (f k : Nat) (T T' : TS), stepI N most i f k T = some T' → T.states.length ≤ most → T'.states.length ≤ most := by
 intro f
 induction f with
 | zero => intro k T T' h hl; unfold stepI at h; cases h; exact hl
 | succ f ih =>
  intro k T T' h hl;unfold stepI at h;split at h
  · cases hs : stepK N most i T k with
    | none => rw [hs] at h; cases h
    | some T1 =>
     rw [hs] at h;exact ih _ _ _ h (stepK_le hs hl)
  · cases h; exact hl
theorem growF_le {N : Nt} {most : Nat} : ∀ (f i : Nat) (T T' : TS), growF N most f i T = some T' → T.states.length ≤ most → T'.states.length ≤ most := by
 intro f
 induction f with
 | zero => intro i T T' h hl; unfold growF at h; cases h; exact hl
 | succ f ih =>
  intro i T T' h hl;unfold growF at h;split at h
  · split at h
    · cases hs : stepI N most i (N.tr.length + 1) 0 T with
      | none => rw [hs] at h; cases h
      | some T1 =>
       rw [hs] at h;exact ih _ _ _ h (stepI_le _ _ _ _ hs hl)
    · exact ih _ _ _ h hl
  · cases h; exact hl
theorem growT_le {N : Nt} {m : List Int} {most : Nat} {T : TS} (h : growT N m most = some T) : T.states.length ≤ most := by
 unfold growT at h;cases hs : addN most ⟨[], []⟩ ⟨m, m, -1, -1, 0, -1, false, false⟩ with
 | none => rw [hs] at h; cases h
 | some T1 =>
  rw [hs] at h;exact growF_le _ _ _ _ h (addN_le hs (Nat.zero_le _))
theorem mk_of {N : Nt} {M s : List Int} (h : mkB N M = true) (hl : s.length = M.length) (hs : isM s) : mkB N s = true := by
 unfold mkB;have hn : s.any badK = false := by
  rw [List.any_eq_false];intro x hx;obtain ⟨p, hp, rfl⟩ := List.getElem_of_mem hx;have h1 := hs p;have e : s.getD p 0 = s[p] := by simp [hp]
  rw [e] at h1;unfold badK; simp; omega
 rw [mk_nt h, hl, mk_len h, hn]; simp
theorem om_cert {N : Nt} {M : List Int} {most : Nat} {T : TS} {i : Nat} {d : Nd} {g : Nat} {z : Nd} {W1 W2 : List Nat} {p : Nat} (hv : mkB N M = true) (hg : growT N M most = some T) (hm : most ≤ 1000) (hf : FOm N T i d g z W1 W2 p) :
 chkB N M ⟨6, p, W1.map Int.ofNat, W2.map Int.ofNat, []⟩ = true ∧ fitB ⟨6, p, W1.map Int.ofNat, W2.map Int.ofNat, []⟩ = true ∧ omB T.states = true ∧ (run21 N M (W1.map Int.ofNat)) = (z.ms, W1.length, 0) ∧ run21 N z.ms (W2.map Int.ofNat) = (d.pn, W2.length, 0) ∧ z.ms.length = M.length ∧ d.pn.length = M.length ∧ isM z.ms ∧ nonneg d.pn := by
 obtain ⟨hI, hD, hN, hM⟩ := grow_good hv hg;have hle := growT_le hg;have hF := hI.fine hN hM;have hgi : g < i := (hf.w2.le hI).2 hf.ne;have hno := no_omega hI hN hM i hf.fst;have hz1 := hno g z (by omega) hf.anc;have hzM := (hz1.2 hgi).1;have hzp := (hz1.2 hgi).2;have hdp := (hno i d (Nat.le_refl _) hf.at_).1;have hfd := hF i d hf.at_;have hfz := hF g z hf.anc;have hl1 : W1.length ≤ 1000 := by have := (path_len hI hf.w1 hf.anc).2; omega
 have hl2 : W2.length ≤ 1000 := by have := (path_len hI hf.w2 hf.at_).2; omega
 have hsame : ∀ (b : Nat), b ≤ i → ∀ (j : Nat) (e : Nd), j < b → T.nodes[j]? = some e → e.ms = e.pn := fun b hb j e hj he => ((hno j e (by omega) he).2 (by omega)).2
 have r1 := path_run hI hf.w1 hI.root hf.anc (hsame g (by omega));have r2 := path_run hI hf.w2 hf.anc hf.at_ (hsame i (Nat.le_refl _));simp only at r1;rw [if_neg hf.ne] at r2;have r1' : runV N M 0 (W1.map Int.ofNat) = (z.ms, W1.length, 0) := by
  rw [r1];by_cases h0 : W1 = []
  · rw [if_pos h0]
  · rw [if_neg h0, hzp]
 have hzk : mkB N z.ms = true := mk_of hv hfz.lm hzM;have e1 : run21 N M (W1.map Int.ofNat) = (z.ms, W1.length, 0) := by
  unfold run21; rw [hv, if_pos rfl, if_neg (by rw [List.length_map]; omega)]; exact r1'
 have e2 : run21 N z.ms (W2.map Int.ofNat) = (d.pn, W2.length, 0) := by
  unfold run21; rw [hzk, if_pos rfl, if_neg (by rw [List.length_map]; omega)]; exact r2
 have hpM : p < M.length := by have := hf.pl; rw [hfd.lp] at this; exact this
 have hnn : nonneg d.pn := fun q => by
  have h1 := hfd.ep q;have h2 := hasO_no hdp q;omega
 refine ⟨?_, ?_, ?_, e1, e2, hfz.lm, hfd.lp, hzM, hnn⟩
 · unfold chkB;rw [hv, if_neg (by simp), Bool.true_and];have hb : badC N ⟨6, p, W1.map Int.ofNat, W2.map Int.ofNat, []⟩ = false := by
    have h4 := mk_len hv;have h5 : W2.length ≠ 0 := fun h => hf.ne (List.eq_nil_of_length_eq_zero h)
    unfold badC;simp [hf.ne];omega
   rw [hb];unfold pumpB;simp only [e1, e2];have hlt : z.ms.getD p 0 < d.pn.getD p 0 := by
    have h1 := (lessE_iff _ _).1 (hf.le p (by rw [hfz.lm]; exact hpM));have h2 := hf.df;have h3 := hnn p;rcases h1 with h1 | h1
    · omega
    · have := h1.2; omega
   unfold endB;rw [(atMost_iff _ _).2 hf.le];simp only [Int.toNat_natCast];rw [decide_eq_true hlt]; simp
 · unfold fitB; simp; omega
 · unfold omB;rw [List.any_eq_true];exact (omega_iff hI hN hM).2 ⟨i, d, hf.at_, hf.om⟩
end
end Go.Proofs.YtkhmngljpfibcaaGreatDoor
