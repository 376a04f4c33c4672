/- Distances to nothing, Index of numbers: what a call returns. fault of sound: what a call returns. -/
import Derived.Test.YtpiihmbeedlpkaaGreatDoorPUu
import Derived.Test.YtpiihmbeedlpkaaGreatDoorPBm
import Derived.Test.YtpiihmbeedlpkaaGreatDoorPUd
namespace Go.Proofs.YtpiihmbeedlpkaaGreatDoor
set_option maxRecDepth 100000
set_option maxHeartbeats 25600000
open Go.Lib (hid)
section
open Go.RowKit

theorem least {P : Nat → Prop} : ∀ k : Nat, P k → ∃ j, P j ∧ ∀ i, i < j → ¬ P i := by
 intro k
 induction k using Nat.strongRecOn with
 | ind k ih =>
  intro hk;by_cases h : ∃ i, i < k ∧ P i
  · obtain ⟨i, hi, hp⟩ := h;exact ih i hi hp
  · exact ⟨k, hk, fun i hi hp => h ⟨i, hi, hp⟩⟩
def IxP (Z : List Int) (x r : Int) : Prop := (∃ k : Nat, r = (k : Int) ∧ k < Z.length ∧ Z.getD k 0 = x) ∨ (r = -1 ∧ ∀ j, j < Z.length → Z.getD j 0 ≠ x)
theorem idx_ixp (Z : List Int) (x : Int) : IxP Z x (Lib.idxOf Z x) := by
 by_cases h : ∃ k, k < Z.length ∧ Z.getD k 0 = x
 · obtain ⟨k, hk⟩ := h;obtain ⟨j, ⟨h1, h2⟩, h3⟩ := least (P := fun k => k < Z.length ∧ Z.getD k 0 = x) k hk;refine .inl ⟨j, ?_, h1, h2⟩;have := Lib.idxOf_hit Z Z.length j x h1 (Nat.le_refl _) h2 (fun i hi e => h3 i hi ⟨by omega, e⟩);rwa [List.take_length] at this
 · refine .inr ⟨?_, fun j hj e => h ⟨j, hj, e⟩⟩;have := Lib.idxOf_miss Z Z.length x (fun j hj e => h ⟨j, hj, e⟩);rwa [List.take_length] at this
theorem sidx_any (A : Option Addr) (n c : Nat) (Z : List Int) (x : Int) (w : World) (h : ZIn w A Z) (hn : Z.length = n) (hb : n ≤ 9223372036854775807) :
 Calls Tryz.prog 39 #[.slice A n c, .int .i64 x] w fun e w' => ∃ r : Int, e = .returned (.int .i64 r) ∧ IxP Z x r ∧ Below w.heap.size w w' := by
 rcases Nat.eq_zero_or_pos n with h0 | h0
 · subst h0;have e1 : Z = [] := List.eq_nil_of_length_eq_zero hn;subst e1;exact (Tryz.slices_Index_int_empty A c x w).mono fun e w' ⟨h1, h2⟩ => ⟨_, h1, idx_ixp [] x, by subst h2; exact Below.refl _ _⟩
 · obtain ⟨b, off, rfl, _, hc⟩ := zin_plain h (by omega);refine (Tryz.slices_Index_int b off n c Z x w (by omega) hb hc).mono fun e w' ⟨h1, h2⟩ => ⟨_, h1, ?_, by subst h2; exact Below.refl _ _⟩
   rw [List.take_of_length_le (by omega)];exact idx_ixp Z x
theorem wdistno_any (w : World) (b : Nat) (N : Nt) (LL : List (List Int)) (MV : List Mv) (fl : Bool) (A : Option Addr) (ntr c : Nat) (As : Option Addr) (cs : Nat) (Av : Option Addr) (cv : Nat) (Af : Option Addr) (cf : Nat) (Ag : Option Addr) (cg : Nat) (h : WdI w b N LL MV fl A ntr c As cs Av cv Af cf Ag cg) (hl2 : LL.length ≤ 1000000) (hv2 : MV.length ≤ 20000) :
 Calls Tryz.prog 26 #[.pointer (some ⟨b, 0, none⟩), .int .i64 (-1)] w fun e w' => ∃ v, e = .returned v ∧ NS w w' v (List.replicate LL.length (-1)) := by
 obtain ⟨n, hn⟩ : ∃ n, n = LL.length := ⟨_, rfl⟩;obtain ⟨nm, hnm⟩ : ∃ nm, nm = MV.length := ⟨_, rfl⟩;have HG3 := hid h;have HRd := hid h.mv;obtain ⟨b0, b1, b2, b3, b4, b5, b6, b7, b8⟩ := h.cells;rw [← hn] at b4 hl2 ⊢;rw [← hnm] at b5;have HNm := hid hnm.symm;have HNn := hid hn.symm;have hnm20 : nm ≤ 20000 := by omega
 clear h hn hnm hv2;have hmk1 : ∀ w : World, (Instr.makeSlice 34 (.int .i64 (n : Int)) (.int .i64 (n : Int))).run Tryz.prog w = .ok (.slice (some ⟨w.heap.size, 0, none⟩) n n) (w.alloc (.cells (madeCells #[.int .i64 0] n) 3)) := fun w => run_make_row' 34 3 (.int .i64 0) 8 Tryz.underlying34 intInfo rfl .i64 .i64 n (by omega) (by omega) w
 obtain ⟨w3, rfl⟩ : ∃ w3 : World, w3 = w := ⟨_, rfl⟩;go_enter Tryz.func26, Tryz.ntmps26;go_wp2_with fail;have HF0 := hid (NS.made w3 n (by omega));obtain ⟨fb, hfb⟩ : ∃ fb, w3.heap.size = fb := ⟨_, rfl⟩;rw [hfb] at HF0 ⊢;generalize w3.alloc _ = w4 at *;clear b0 b1 b2 b3 b4 b5 b6 b7 b8 hmk1;go_loopg [23] (n) (fun g iv wr => FiI n w3 fb g iv wr);case atStart => exact ⟨0, by omega, rfl, HF0.out⟩
 case round =>
  clear HF0;obtain ⟨k, hkg, rfl, hS⟩ := hrel;have HK := hid hkg;have HS := hid hS;have hle : k ≤ n := by omega
  have hgr : fb < wr.heap.size := (hS.1.lt fb rfl).2;clear hkg hS;by_cases hlt : k < n
  · obtain ⟨q0, q1⟩ := HS.out.cells k (by rw [fill1_len n k hle]; exact hlt);generalize (fill1 n k)[k]'_ = z at q0;have hlt' : (k : Int) < (n : Int) := by omega
    go_wp2_with fail;go_roundg (gk - 1);case measure => have := HK.out; omega
    case rel => exact ⟨k + 1, by have := HK.out; omega, by go_num, by rw [← fill1_set n k hlt]; exact HS.out.set (by omega) k _⟩
  · have HF1 := hid (show NS w3 wr (.slice (some ⟨fb, 0, none⟩) n n) (List.replicate n (-1)) by have := HS.out; rwa [show k = n by omega, fill1_full] at this);clear HS HK;go_wp2_with fail;go_ret;exact ⟨_, rfl, HF1.out⟩
end
section
open Go.RowKit

def FaPo (N : Nt) (LL : List (List Int)) (MV : List Mv) (w : World) (e : Ending) (w' : World) : Prop := ∃ r a : Int, e = .returned (.tuple #[.int .i64 r, .int .i64 a]) ∧ RsAt N LL MV r a ∧ Below w.heap.size w w'
theorem FaPo.one {N : Nt} {LL : List (List Int)} {MV : List Mv} {w w' : World} (h : RsO LL) (hb : Below w.heap.size w w') : FaPo N LL MV w (.returned (.tuple #[.int .i64 1, .int .i64 0])) w' :=
 ⟨1, 0, rfl, ⟨.inl ⟨rfl, h⟩, fun h => by omega, fun h => by omega, fun h => by omega⟩, hb⟩
theorem FaPo.two {N : Nt} {LL : List (List Int)} {MV : List Mv} {w w' : World} {k : Nat} {s : List Int} (ho : ¬ RsO LL) (hk : LL[k]? = some s) (h0 : 0 < s.getD N.snk.toNat 0) (hf : s ≠ finM N) (hb : Below w.heap.size w w') : FaPo N LL MV w (.returned (.tuple #[.int .i64 2, .int .i64 (k : Int)])) w' :=
 ⟨2, k, rfl, ⟨.inr (.inl ⟨ho, rfl, s, List.mem_of_getElem? hk, h0, hf⟩), fun _ => ⟨k, s, rfl, hk, h0, hf⟩, fun h => by omega, fun h => by omega⟩, hb⟩
theorem FaPo.three {N : Nt} {LL : List (List Int)} {MV : List Mv} {w w' : World} {k : Nat} (ho : ¬ RsO LL) (hb2 : ¬ RsB N LL) (hk : k < LL.length) (hl : ¬ Leads N LL MV k) (hb : Below w.heap.size w w') : FaPo N LL MV w (.returned (.tuple #[.int .i64 3, .int .i64 (k : Int)])) w' :=
 ⟨3, k, rfl, ⟨.inr (.inr (.inl ⟨ho, hb2, rfl, k, hk, hl⟩)), fun h => by omega, fun _ => ⟨k, rfl, hk, hl⟩, fun h => by omega⟩, hb⟩
theorem FaPo.four {N : Nt} {LL : List (List Int)} {MV : List Mv} {w w' : World} {k : Nat} {t : Tr} (ho : ¬ RsO LL) (hb2 : ¬ RsB N LL) (hl : ¬ RsL N LL MV) (hk : N.tr[k]? = some t) (hd : ∀ s ∈ LL, canT t s = false) (hb : Below w.heap.size w w') : FaPo N LL MV w (.returned (.tuple #[.int .i64 4, .int .i64 (k : Int)])) w' :=
 ⟨4, k, rfl, ⟨.inr (.inr (.inr (.inl ⟨ho, hb2, hl, rfl, t, List.mem_of_getElem? hk, hd⟩))), fun h => by omega, fun h => by omega, fun _ => ⟨k, t, rfl, hk, hd⟩⟩, hb⟩
theorem FaPo.zero {N : Nt} {LL : List (List Int)} {MV : List Mv} {w w' : World} (ho : ¬ RsO LL) (hb2 : ¬ RsB N LL) (hl : ¬ RsL N LL MV) (hd : ¬ RsD N LL) (hb : Below w.heap.size w w') : FaPo N LL MV w (.returned (.tuple #[.int .i64 0, .int .i64 0])) w' :=
 ⟨0, 0, rfl, ⟨.inr (.inr (.inr (.inr ⟨ho, hb2, hl, hd, rfl⟩))), fun h => by omega, fun h => by omega, fun h => by omega⟩, hb⟩
theorem lidx_two (p : List Int → Bool) (L : List (List Int)) : (lidx p L = -1 ∧ ∀ s ∈ L, p s = false) ∨ ∃ (g : Nat) (s : List Int), lidx p L = (g : Int) ∧ L[g]? = some s ∧ p s = true := by
 unfold lidx;by_cases h : L.findIdx p = L.length
 · rw [if_pos h];refine .inl ⟨rfl, fun s hs => ?_⟩;cases hp : p s with
   | false => rfl
   | true => have := List.findIdx_lt_length_of_exists ⟨s, hs, hp⟩; omega
 · rw [if_neg h];have hlt : L.findIdx p < L.length := by have := List.findIdx_le_length (p := p) (xs := L); omega
   exact .inr ⟨_, _, rfl, List.getElem?_eq_getElem hlt, List.findIdx_getElem (w := hlt)⟩
theorem wfault_any (w : World) (b : Nat) (N : Nt) (LL : List (List Int)) (MV : List Mv) (fl : Bool) (A : Option Addr) (n c : Nat) (As : Option Addr) (cs : Nat) (Av : Option Addr) (cv : Nat) (Af : Option Addr) (cf : Nat) (Ag : Option Addr) (cg : Nat) (h : WdI w b N LL MV fl A n c As cs Av cv Af cf Ag cg) (hv : ntB N = true) (hall : ∀ s ∈ LL, (s.length : Int) = N.pl) (hnod : ∀ (i j : Nat) (s : List Int), LL[i]? = some s → LL[j]? = some s → i = j) (hmo : mvOk MV LL.length) (hl0 : 0 < LL.length) (hl2 : LL.length ≤ 1000000) (hv2 : MV.length ≤ 20000) :
 Calls Tryz.prog 16 #[.pointer (some ⟨b, 0, none⟩)] w (FaPo N LL MV w) := by
 have HW := hid h;have HV := hid hv;have HAll := hid hall;have HNod := hid hnod;have HMo := hid hmo;have HNl := hid h.hn;have hl9 : LL.length ≤ 9223372036854775806 := by omega
 have hps := nt_small hv;have hsr := nt_src hv;have hfl : ((finM N).length : Int) = N.pl := mk_len (one_mk hv N.snk.toNat);obtain ⟨sk, hsk⟩ := Int.eq_ofNat_of_zero_le hsr.2.2.1;have HSk := hid hsk;have hn60 : n ≤ 60 := by rw [← HNl.out]; omega
 have HFl := hid (show (finM N).length ≤ 1000 by omega);have HSl := hid (show ∀ s ∈ LL, sk < s.length ∧ s.length ≤ 1000 from fun s hs => by have := hall s hs; omega);have HBd := hid (wbounded_any w b N LL MV fl A n c As cs Av cv Af cf Ag cg h hl9);clear h hv hall hnod hmo hps hsr hfl hsk;go_enter Tryz.func16, Tryz.ntmps16;go_wp2_with fail;((with_reducible refine HBd.out.mono ?_); rintro e w1 ⟨rfl, hb1⟩)
 have HB1 := hid hb1;have HW1 := hid (HW.out.below hb1);clear hb1 HBd HW;cases ho : LL.any hasO with
 | true =>
  have HO := hid (show RsO LL from List.any_eq_true.1 ho);clear ho;go_wp2_with fail;go_ret2;exact FaPo.one HO.out HB1.out
 | false =>
  have HO := hid (show ¬ RsO LL from fun ⟨s, hs, h9⟩ => List.any_eq_false.1 ho s hs h9);clear ho;obtain ⟨b0, b1, b2, b3, b4, b5, b6, b7, b8⟩ := HW1.out.cells;obtain ⟨nl, hnl⟩ : ∃ nl, nl = LL.length := ⟨_, rfl⟩;have HLn := hid hnl;rw [← hnl] at b4;clear hnl;go_wp2_with fail;clear b0 b1 b2 b3 b4 b5 b6 b7 b8;go_loopg [17] (nl) (fun g iv wr => ∃ k : Nat, k + g = nl ∧ iv = .int .i64 (k : Int) ∧ (∀ s ∈ LL.take k, 0 < s.getD N.snk.toNat 0 → s = finM N) ∧ Below w1.heap.size w1 wr);case atStart => exact ⟨0, by omega, rfl, by simp, Below.refl _ _⟩
  case round =>
   obtain ⟨k, hk, rfl, hgd, hB⟩ := hrel;have HK := hid hk;have HGd := hid hgd;have HBr := hid hB;have HWr := hid (HW1.out.below hB);have hle : k ≤ nl := by omega
   have hkn : nl ≤ 1000000 := by rw [HLn.out]; exact hl2
   clear hk hgd hB;by_cases hlt : k < nl
   · have hlt' : k < LL.length := by rw [← HLn.out]; exact hlt
     obtain ⟨sa, rfl, hsa, u, c0, Au, nu, cu, rfl, hzu, hul, _, _⟩ := HWr.out.st k hlt';have HTk := hid (List.take_succ_eq_append_getElem hlt');have HGk := hid (show LL[k]? = some LL[k] from List.getElem?_eq_getElem hlt');obtain ⟨hskM, hs1000⟩ := HSl.out _ (List.getElem_mem hlt');generalize LL[k] = S at *;subst hul;obtain ⟨am, rfl, hma, y1⟩ := (show ZIn wr Au S from hzu) sk hskM;obtain ⟨ms, hms⟩ : ∃ ms, ms = S[sk] := ⟨_, rfl⟩;have HMs := hid (show S.getD N.snk.toNat 0 = ms by rw [HSk.out, hms]; simp [hskM]);rw [← hms] at y1;have hskI : (sk : Int) < (S.length : Int) := by omega
     have HEq := hid (equal_any (some am) S.length cu Af (finM N).length cf S (finM N) wr hzu rfl HWr.out.fin rfl (by omega) (by have := HFl.out; omega));obtain ⟨b0, b1, b2, b3, b4, b5, b6, b7, b8⟩ := HWr.out.cells;rw [HSk.out] at b3;clear hms hzu;by_cases hpos : 0 < ms
     · have q1 : decide (ms > 0) = true := by simpa using hpos
       have HPos := hid hpos;clear hpos;by_cases he : S = finM N
       · have HE := hid he;rw [decide_eq_true he] at HEq;clear he;go_wp2_with fail;((with_reducible refine HEq.out.mono ?_); rintro e w2 ⟨rfl, hb2⟩)
         have HB2 := hid (below_then HBr.out hb2);clear hb2 HEq b0 b1 b2 b3 b4 b5 b6 b7 b8 c0 y1;go_wp2_with fail;go_roundg (gk - 1);case measure => have := HK.out; omega
         case rel => exact ⟨k + 1, by have := HK.out; omega, by go_num, by
          rw [HTk.out]; intro x hx h0;rcases List.mem_append.1 hx with h1 | h1
          · exact HGd.out x h1 h0
          · simp at h1; subst h1; exact HE.out, HB2.out⟩
       · have HE := hid he;rw [decide_eq_false he] at HEq;clear he;go_wp2_with fail;((with_reducible refine HEq.out.mono ?_); rintro e w2 ⟨rfl, hb2⟩)
         have HB2 := hid (below_then HB1.out (below_then HBr.out hb2));clear hb2 HEq b0 b1 b2 b3 b4 b5 b6 b7 b8 c0 y1;go_wp2_with fail;go_ret2;exact FaPo.two HO.out HGk.out (by rw [HMs.out]; exact HPos.out) HE.out HB2.out
     · have q1 : decide (ms > 0) = false := by simpa using hpos
       have HPos := hid hpos;clear hpos HEq;go_wp2_with fail;go_roundg (gk - 1);case measure => have := HK.out; omega
       case rel => exact ⟨k + 1, by have := HK.out; omega, by go_num, by
        rw [HTk.out]; intro x hx h0;rcases List.mem_append.1 hx with h1 | h1
        · exact HGd.out x h1 h0
        · simp at h1; subst h1; rw [HMs.out] at h0; exact absurd h0 (by have := HPos.out; omega), HBr.out⟩
   · have HBb := hid (show ¬ RsB N LL from fun ⟨s, hs, h0, hf⟩ => hf (HGd.out s (by rw [List.take_of_length_le (by rw [← HLn.out]; omega)]; exact hs) h0));clear HGd hle;have HFd := hid (wfind_any wr b N LL MV fl A n c As cs Av cv Af cf Ag cg Af (finM N).length cf (finM N) HWr.out hl9 HWr.out.fin rfl (by have := HFl.out; omega));obtain ⟨b0, b1, b2, b3, b4, b5, b6, b7, b8⟩ := HWr.out.cells;go_wp2_with fail;((with_reducible refine HFd.out.mono ?_); rintro e w2 ⟨rfl, hb2⟩)
     have HB2 := hid (below_then HB1.out (below_then HBr.out hb2));have HW2 := hid (HWr.out.below hb2);clear hb2 HFd b0 b1 b2 b3 b4 b5 b6 b7 b8 HWr HBr HK;rcases lidx_two (isL (finM N)) LL with ⟨hn1, hno⟩ | ⟨g, s9, hg, hs9, hc9⟩
     · rw [hn1];have HNl9 := hid (show ∀ k, ¬ Leads N LL MV k from fun k ⟨g, hg, _⟩ => by
        have := hno _ (List.mem_of_getElem? hg); unfold isL at this; simp at this)
       have HDi := hid (wdistno_any w2 b N LL MV fl A n c As cs Av cv Af cf Ag cg HW2.out hl2 hv2);clear hn1 hno;go_wp2_with fail;((with_reducible refine HDi.out.mono ?_); rintro e w3 ⟨v3, rfl, hS3⟩)
       obtain ⟨A3, c3, rfl, hz3, _⟩ := hS3.zin;have HB3 := hid (below_then HB2.out hS3.2);have HIx := hid (sidx_any A3 LL.length c3 _ (-1) w3 hz3 (by simp) (by omega));clear hS3 hz3 HDi;go_wp2_with fail;((with_reducible refine HIx.out.mono ?_); rintro e w4 ⟨r, rfl, hix, hb4⟩)
       have HB4 := hid (below_then HB3.out hb4);rcases hix with ⟨j, rfl, hj, _⟩ | ⟨_, hno⟩
       · have hj' : j < LL.length := by simpa using hj
         have q9 : decide ((j : Int) ≥ 0) = true := by simp
         clear hj hb4 HIx;go_wp2_with fail;go_ret2;exact FaPo.three HO.out HBb.out hj' (HNl9.out j) HB4.out
       · exact absurd (by simp [hl0]) (hno 0 (by simpa using hl0))
     · rw [hg];have hfin : s9 = finM N := by unfold isL at hc9; simpa using hc9
       subst hfin;have hgl := (List.getElem?_eq_some_iff.1 hs9).1;have HGg := hid hs9;have HDi := hid (wdist_any w2 b N LL MV fl A n c As cs Av cv Af cf Ag cg g HW2.out HMo.out hgl hl2 hv2);clear hg hs9 hc9;go_wp2_with fail;((with_reducible refine HDi.out.mono ?_); rintro e w3 ⟨v3, F, rfl, hS3, hD⟩)
       obtain ⟨A3, c3, rfl, hz3, _⟩ := hS3.zin;have HB3 := hid (below_then HB2.out hS3.2);have HW3 := hid (HW2.out.below hS3.2);have HIx := hid (sidx_any A3 _ c3 F (-1) w3 hz3 rfl (by rw [hD.len]; omega));have HD := hid hD;clear hS3 hz3 HDi hD;go_wp2_with fail;((with_reducible refine HIx.out.mono ?_); rintro e w4 ⟨r, rfl, hix, hb4⟩)
       have HB4 := hid (below_then HB3.out hb4);have HW4 := hid (HW3.out.below hb4);clear hb4 HIx;have HLe := hid (show ∀ k, k < LL.length → (Leads N LL MV k ↔ 0 ≤ fd F (k : Int)) from fun k hk => by
        constructor
        · rintro ⟨g', hg', hl⟩;have e : g' = g := HNod.out g' g _ hg' HGg.out;subst e;exact (lead_far HMo.out HD.out hk).1 hl
        · intro h0;exact ⟨g, HGg.out, (lead_far HMo.out HD.out hk).2 h0⟩)
       rcases hix with ⟨j, rfl, hj, hjv⟩ | ⟨hr1, hno⟩
       · have hj' : j < LL.length := by rw [← HD.out.len]; exact hj
         have HNo := hid (show ¬ Leads N LL MV j from fun h9 => by
          have h1 := (HLe.out j hj').1 h9;unfold fd at h1;rw [Int.toNat_natCast, hjv] at h1; omega)
         have q9 : decide ((j : Int) ≥ 0) = true := by simp
         clear hj hjv;go_wp2_with fail;go_ret2;exact FaPo.three HO.out HBb.out hj' HNo.out HB4.out
       · have HLd := hid (show ¬ RsL N LL MV from fun ⟨k, hk, hnl9⟩ => hnl9 ((HLe.out k hk).2 (by
          rcases Int.lt_or_le (fd F (k : Int)) 0 with h1 | h1
          · have h2 := HD.out.neg k hk h1;unfold fd at h2;rw [Int.toNat_natCast] at h2;exact absurd h2 (hno k (by rw [HD.out.len]; exact hk))
          · exact h1)))
         subst hr1;clear hno HLe;obtain ⟨b0, b1, b2, b3, b4, b5, b6, b7, b8⟩ := HW4.out.cells;go_wp2_with fail;clear b0 b1 b2 b3 b4 b5 b6 b7 b8;go_loopg [60] (n) (fun g iv wr => ∃ t : Nat, t + g = n ∧ iv = .int .i64 (t : Int) ∧ (∀ x ∈ N.tr.take t, ∃ s ∈ LL, canT x s = true) ∧ Below w4.heap.size w4 wr);case atStart => exact ⟨0, by omega, rfl, by simp, Below.refl _ _⟩
         case round =>
          obtain ⟨t, htg, rfl, hyes, hB⟩ := hrel;have HK := hid htg;have HY := hid hyes;have HBr := hid hB;have hle : t ≤ n := by omega
          clear htg hyes hB;by_cases hlt : t < n
          · have htl : t < N.tr.length := by rw [HNl.out]; exact hlt
            have hmem := List.getElem_mem htl;have HWh := hid (wwhere_any wr b N LL MV fl A n c As cs Av cv Af cf Ag cg t (HW4.out.below HBr.out) hl9 htl (fun s hs => (nt_inM HV.out (m := s.length) (HAll.out s hs) _ hmem).1) (by have h1 := pls_len (trOk_mem (netOk_of HV.out (m := N.pl.toNat) (by have := nt_small HV.out; omega)) hmem).1; have := nt_small HV.out; omega));have HTk := hid (List.take_succ_eq_append_getElem htl);have HGt := hid (show N.tr[t]? = some N.tr[t] from List.getElem?_eq_getElem htl);generalize N.tr[t] = T at *;rcases lidx_two (canT T) LL with ⟨hn1, hno⟩ | ⟨g9, s9, hg9, hs9, hc9⟩
            · rw [hn1] at HWh;have HNo := hid hno;clear hn1 hno hmem;go_wp2_with fail;((with_reducible refine HWh.out.mono ?_); rintro e w9 ⟨rfl, hb9⟩)
              have HB9 := hid (below_then HB4.out (below_then HBr.out hb9));clear hb9;go_wp2_with fail;go_ret2;exact FaPo.four HO.out HBb.out HLd.out HGt.out HNo.out HB9.out
            · rw [hg9] at HWh;have HEx := hid (show ∃ s ∈ LL, canT T s = true from ⟨s9, List.mem_of_getElem? hs9, hc9⟩);have q9 : decide ((g9 : Int) < 0) = false := by simp
              clear hg9 hs9 hc9 hmem;go_wp2_with fail;((with_reducible refine HWh.out.mono ?_); rintro e w9 ⟨rfl, hb9⟩)
              have HB9 := hid (below_then HBr.out hb9);clear hb9;go_wp2_with fail;go_roundg (gk - 1);case measure => have := HK.out; omega
              case rel => exact ⟨t + 1, by have := HK.out; omega, by go_num, by
               rw [HTk.out]; intro x hx;rcases List.mem_append.1 hx with h1 | h1
               · exact HY.out x h1
               · simp at h1; subst h1; exact HEx.out, HB9.out⟩
          · have HDd := hid (show ¬ RsD N LL from fun ⟨x, hx, hd⟩ => by
             obtain ⟨s, hs, hc⟩ := HY.out x (by rw [List.take_of_length_le (by rw [HNl.out]; omega)]; exact hx);rw [hd s hs] at hc; cases hc)
            go_wp2_with fail;go_ret2;exact FaPo.zero HO.out HBb.out HLd.out HDd.out (below_then HB4.out HBr.out)
end
end Go.Proofs.YtpiihmbeedlpkaaGreatDoor
