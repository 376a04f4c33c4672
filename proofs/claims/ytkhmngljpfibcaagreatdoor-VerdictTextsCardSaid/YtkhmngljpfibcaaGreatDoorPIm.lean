/- cover.closed, cover.Check: what a call returns. -/
import Derived.Test.YtkhmngljpfibcaaGreatDoorPUu
import Derived.Test.YtkhmngljpfibcaaGreatDoorPIf
import Derived.Test.YtkhmngljpfibcaaGreatDoorPIi
namespace Go.Proofs.YtkhmngljpfibcaaGreatDoor
set_option maxRecDepth 100000
set_option maxHeartbeats 12800000
open Go.Lib (hid)
open Go.RowKit

theorem plainElem_bool_inv {P : Program} {e : TypeId} (he : P.underlying e = some .bool) {v : Value} {z : DataW Unit × List MemPlace} (h : plainElem P e v = some z) : ∃ x, v = .bool x ∧ z = (.lit (.bool x), []) := by
 unfold plainElem at h;rw [he] at h;cases v <;> simp at h;subst h;exact ⟨_, rfl, rfl⟩
theorem zeroBool (w : World) : (zeroValue 4).run Tryz.prog w = .ok (.bool false) w := by kernel_rfl
theorem litb_inj {a b : Bool} (h : (DataW.lit (.bool a) : DataW Unit) = .lit (.bool b)) : a = b := by cases h; rfl
def KBm (w : World) (mb : Nat) (L : List (List Int)) : Prop :=
 ∃ (n : Nat) (D : DataW Unit), w.ownsMap Tryz.prog 9 (plainElem Tryz.prog 4) mb n D ∧ n ≤ L.length ∧ (∀ z, Maps.has D (klit z) = decide (z ∈ L)) ∧ ∀ z ∈ L, ∀ zd, D.atKey (klit z) zd = .lit (.bool true)
theorem KBm.made (w : World) : KBm (w.alloc (.map #[] 0)) w.heap.size [] :=
 ⟨0, .map [], World.ownsMap_made _ _ _ _, Nat.le_refl _, fun z => rfl, fun z h => by simp at h⟩
theorem KBm.below {w w' : World} {mb : Nat} {L : List (List Int)} (h : KBm w mb L) (hb : Below w.heap.size w w') : KBm w' mb L := by
 obtain ⟨n, D, h1, h2⟩ := h;have hlt := h1.lt;obtain ⟨es, clock, hb', r⟩ := h1;exact ⟨n, D, ⟨es, clock, by rw [hb.block mb hlt]; exact hb', r⟩, h2⟩
theorem KBm.look {w : World} {mb : Nat} {L : List (List Int)} (h : KBm w mb L) {z : List Int} (hz : okZ z) :
 (Instr.lookup 208 (.map (some mb)) (.string ⟨(keyL z).toArray⟩) false).run Tryz.prog w = .ok (.bool (decide (z ∈ L))) w := by
 obtain ⟨n, D, h1, h2, h3, h4⟩ := h;obtain ⟨v, ps, hrun, hR⟩ := h1.lookup (Maps.string_keyed Tryz.underlying9) Tryz.underlying208 (zeroBool w) (plainElem_bool Tryz.underlying4 false) (klit_key hz);rw [hrun];obtain ⟨x, rfl, hx⟩ := plainElem_bool_inv Tryz.underlying4 hR;simp only [Prod.mk.injEq] at hx;by_cases hm : z ∈ L
 · rw [h4 z hm] at hx;rw [decide_eq_true hm, litb_inj hx.1]
 · have : D.atKey (klit z) (.lit (.bool false)) = .lit (.bool false) := Maps.atKey_of_not_has (by rw [h3 z]; simpa using hm) _;rw [this] at hx;rw [decide_eq_false hm, litb_inj hx.1]
theorem KBm.store {w : World} {mb : Nat} {L : List (List Int)} (h : KBm w mb L) {z : List Int} (hz : okZ z) (hl : L.length < 9223372036854775807) :
 ∃ w', (Instr.mapUpdate 208 (.map (some mb)) (.string ⟨(keyL z).toArray⟩) (.bool true)).run Tryz.prog w = .ok () w' ∧ KBm w' mb (L ++ [z]) ∧ w.grownBy w' (some mb) := by
 obtain ⟨n, D, h1, h2, h3, h4⟩ := h;obtain ⟨w', hrun, hown, hgr⟩ := h1.update (Maps.string_keyed Tryz.underlying9) Tryz.underlying208 (by unfold maxLen; omega) (klit_key hz) (plainElem_bool Tryz.underlying4 true);have hI : Maps.IsMap D := h1.isMap;refine ⟨w', hrun, ⟨n + 1, _, hown, by rw [List.length_append]; simp; omega, fun y => ?_, fun y hy zd => ?_⟩, hgr⟩
 · by_cases e : y = z
   · subst e;rw [Maps.has_put_same hI (klit_is _)]; simp
   · rw [Maps.has_put_other (fun h => e (klit_inj h)), h3 y]; simp [e]
 · by_cases e : y = z
   · subst e;rw [Maps.atKey_put_same hI (klit_is _)]
   · rw [Maps.atKey_put_other (fun h => e (klit_inj h))];refine h4 y ?_ zd;rcases List.mem_append.1 hy with h5 | h5
     · exact h5
     · simp at h5; exact absurd h5 e
theorem mk_okZ {N : Nt} {M : List Int} (h : mkB N M = true) : okZ M := by
 refine ⟨fun x hx => by have := mk_nums h x hx; omega, ?_⟩;have := mk_len h; have := nt_small (mk_nt h); omega
def okF (N : Nt) (LL : List (List Int)) (s : List Int) (t : Int) : Bool := decide ((fireV N s t).2 = 0) && decide ((fireV N s t).1 ∈ LL)
theorem en_all {N : Nt} {LL : List (List Int)} {s : List Int} (h : mkB N s = true) : (enV N s).all (okF N LL s) = okS N LL N.tr.length s := by
 have key : ∀ k, k ≤ N.tr.length → (enTo N s k).all (okF N LL s) = okS N LL k s := by
  intro k
  induction k with
  | zero => intro _; rfl
  | succ k ih =>
   intro hk;have h1 := ih (by omega);have hx : N.tr[k]? = some N.tr[k] := List.getElem?_eq_getElem (by omega);rw [okS_succ];cases hc : canAt N s k with
   | false =>
    rw [en_no _ _ _ hc, h1];rw [canAt_get _ _ _ (by omega)] at hc;rw [okT_can hx hc]; simp
   | true =>
    rw [en_yes _ _ _ hc, List.all_append, h1];rw [canAt_get _ _ _ (by omega)] at hc;rw [okT_fire hx hc];simp [okF]
 unfold enV;rw [h, if_pos rfl];exact key _ (Nat.le_refl _)
def C1I (N : Nt) (LL : List (List Int)) (nl : Nat) (w0 : World) (mb g : Nat) (iv : Value) (wr : World) : Prop :=
 ∃ k : Nat, k + g = nl ∧ iv = .int .i64 (k : Int) ∧ (LL.take k).all (mkB N) = true ∧ KBm wr mb (LL.take k) ∧ Below w0.heap.size w0 wr
def C2I (N : Nt) (LL : List (List Int)) (nl : Nat) (w0 : World) (mb g : Nat) (iv : Value) (wr : World) : Prop :=
 ∃ k : Nat, k + g = nl ∧ iv = .int .i64 (k : Int) ∧ (LL.take k).all (okS N LL N.tr.length) = true ∧ KBm wr mb LL ∧ Below w0.heap.size w0 wr
def C3I (N : Nt) (LL : List (List Int)) (X E : List Int) (n : Nat) (w0 we : World) (mb g : Nat) (iv : Value) (wr : World) : Prop :=
 ∃ k : Nat, k + g = n ∧ iv = .int .i64 (k : Int) ∧ (E.take k).all (okF N LL X) = true ∧ KBm wr mb LL ∧ Below w0.heap.size w0 wr ∧ Below we.heap.size we wr
theorem cclosed_any (N : Nt) (A : Option Addr) (n c : Nat) (Am : Option Addr) (m cm : Nat) (M : List Int) (Al : Option Addr) (nl cl : Nat) (LL : List (List Int)) (w : World) (ht : Tb w) (h : NtIn w A N) (hn : N.tr.length = n) (hn2 : n ≤ 9223372036854775806) (hM : ZIn w Am M) (hm : M.length = m) (hmk : mkB N M = true) (hL : LIn w Al LL) (hl : LL.length = nl) (hl2 : nl ≤ 9223372036854775806) :
 Calls Tryz.prog 168 #[.agg #[.int .i64 N.pl, .slice A n c, .int .i64 N.src, .int .i64 N.snk], .slice Am m cm, .slice Al nl cl] w fun e w' => e = .returned (.bool (closedB N M LL)) ∧ Below w.heap.size w w' := by
 have HB := hid (below_alloc w (.cells #[.int .i64 N.pl, .slice A n c, .int .i64 N.src, .int .i64 N.snk] 24));have HNb := hid (NB.new w N.pl A n c N.src N.snk);have HIn := hid (h.below HB.out);have HM := hid (hM.below HB.out);have HL := hid (hL.below HB.out);have HT := hid (ht.below HB.out);have HMl := hid hm;have HLl := hid hl;have HNl := hid hn;have HMk := hid hmk;have hm40 : m ≤ 1000 := by have := nt_small (mk_nt hmk); have := mk_len hmk; omega
 clear h hn hM hm hL hl hmk ht;have hmm := @run_makeMap Tryz.prog;go_enter Tryz.func168, Tryz.ntmps168;go_wp2_with fail;have hs0 : (w.alloc (.cells #[.int .i64 N.pl, .slice A n c, .int .i64 N.src, .int .i64 N.snk] 24)).heap.size = w.heap.size + 1 := by simp
 generalize w.alloc _ = w0 at *;generalize w.heap.size + 1 = mb at *;have HS0 := hid hs0;clear hmm hs0;go_loopg [23] (nl) (fun g iv wr => C1I N LL nl w0 mb g iv wr);case atStart => exact ⟨0, by omega, rfl, by simp, by rw [← HS0.out]; exact KBm.made w0, below_alloc w0 _⟩
 case round =>
  obtain ⟨k, hk, rfl, hp, hKm, hB⟩ := hrel;have HK := hid hk;have HP := hid hp;have HKm := hid hKm;have HBr := hid hB;have HLr := hid (HL.out.below hB);have hle : k ≤ nl := by omega
  obtain ⟨b0, b1, b2, b3⟩ := (HNb.out.below hB).cells;clear hk hp hB hKm;by_cases hlt : k < nl
  · have hlt' : k < LL.length := by rw [HLl.out]; exact hlt
    obtain ⟨al, rfl, hpa, u, q0, Ax, nx, cx, rfl, zx, hx1, hx2, hx3⟩ := HLr.out k hlt';have HTk := hid (all_take (mkB N) hlt');have HTl := hid (List.take_succ_eq_append_getElem hlt');have HNo := hid (all_no (mkB N) (List.getElem_mem hlt'));have HLn := hid (show (LL.take k).length = k by rw [List.length_take]; omega);generalize LL[k] = X at *;have HZx := hid zx;have HXl := hid hx1;have HEn := hid (penabled_any N A n c Ax nx cx X wr (HIn.out.below HBr.out) HNl.out (by omega) zx hx1 (by omega));clear hlt' zx hx1;cases hk : mkB N X with
    | false =>
     have HE := hid (show enE N X = 1 by unfold enE; rw [hk]; rfl);have HV := hid (show closedB N M LL = false by unfold closedB; rw [HNo.out hk]; simp);clear hk HNo;go_wp2_with fail;((with_reducible refine HEn.out.mono ?_); rintro e w1 ⟨v, rfl, hS⟩)
     obtain ⟨Av, cv, rfl⟩ := hS.slice;have HB1 := hid (below_then HBr.out hS.2);rw [HE.out];clear hS;go_wp2_with fail;go_ret;exact ⟨ret_bool HV.out.symm, HB.out.trans (HB1.out.mono HB.out.size)⟩
    | true =>
     have HE := hid (show enE N X = 0 by unfold enE; rw [hk]; rfl);have HV := hid (show (LL.take (k + 1)).all (mkB N) = true by rw [HTk.out, HP.out, hk]; rfl);have HOk := hid (mk_okZ hk);have hnx : nx ≤ 1000 := by have := nt_small (mk_nt hk); have := mk_len hk; have := HXl.out; omega
     clear hk HNo;go_wp2_with fail;((with_reducible refine HEn.out.mono ?_); rintro e w1 ⟨v, rfl, hS⟩)
     obtain ⟨Av, cv, rfl⟩ := hS.slice;have HB1 := hid (below_then HBr.out hS.2);have HKm1 := hid (HKm.out.below hS.2);have HKy := hid (key_any Ax nx cx X w1 (HZx.out.below hS.2) HXl.out (by omega) HOk.out.1 (HT.out.below HB1.out));rw [HE.out];clear hS HEn;go_wp2_with fail;((with_reducible refine HKy.out.mono ?_); rintro e w2 ⟨rfl, hb2⟩)
     have HB2 := hid (below_then HB1.out hb2);have HKm2 := hid (HKm1.out.below hb2);obtain ⟨w3, hrun, hkm3, hgr3⟩ := HKm2.out.store HOk.out (by rw [HLn.out]; omega);have HKm3 := hid hkm3;rw [← HTl.out] at HKm3;have HB3 := hid (HB2.out.grown hgr3 HB2.out.size (fun k hk => by cases hk; rw [HS0.out]; exact Nat.le_refl _));clear hb2 HKy hkm3 hgr3;go_wp2_with fail;go_roundg (gk - 1);case measure => have := HK.out; omega
     case rel => exact ⟨k + 1, by have := HK.out; omega, by go_num, HV.out, HKm3.out, HB3.out⟩
  · have HAll := hid (show LL.all (mkB N) = true by have := HP.out; rwa [List.take_of_length_le (by rw [HLl.out]; omega)] at this);have HKa := hid (show KBm wr mb LL by have := HKm.out; rwa [List.take_of_length_le (by rw [HLl.out]; omega)] at this);clear HP HLr HKm;go_wp2_with fail;clear hle b0 b1 b2 b3 hlt HK;go_loopg [41] (nl) (fun g iv wr => C2I N LL nl w0 mb g iv wr);case atStart => exact ⟨0, by omega, rfl, by simp, HKa.out, HBr.out⟩
    case round =>
     clear HBr HKa;obtain ⟨k, hk, rfl, hp, hKm, hB⟩ := hrel;have HK := hid hk;have HP := hid hp;have HKm := hid hKm;have HBr := hid hB;have HLr := hid (HL.out.below hB);have hle : k ≤ nl := by omega
     obtain ⟨b0, b1, b2, b3⟩ := (HNb.out.below hB).cells;clear hk hp hB hKm;by_cases hlt : k < nl
     · have hlt' : k < LL.length := by rw [HLl.out]; exact hlt
       have HTk := hid (all_take (okS N LL N.tr.length) hlt');have HNo := hid (all_no (okS N LL N.tr.length) (List.getElem_mem hlt'));have HMx := hid (List.all_eq_true.1 HAll.out _ (List.getElem_mem hlt'));obtain ⟨al, rfl, hpa, u, q0, Ax, nx, cx, rfl, zx, hx1, hx2, hx3⟩ := HLr.out k hlt';generalize LL[k] = X at *;have HZx := hid zx;have HXl := hid hx1;have hnx : nx ≤ 1000 := by have := nt_small (mk_nt HMx.out); have := mk_len HMx.out; omega
       have HEn := hid (penabled_any N A n c Ax nx cx X wr (HIn.out.below HBr.out) HNl.out (by omega) zx hx1 (by omega));have HEa := hid (en_all (LL := LL) HMx.out);have HEl := hid (show (enV N X).length ≤ 60 by
        unfold enV; rw [HMx.out, if_pos rfl];have h1 := en_len N X N.tr.length;have h2 := nt_small (mk_nt HMx.out);omega)
       clear hlt' zx hx1 HLr;obtain ⟨go, rfl⟩ : ∃ go, go = gk := ⟨_, rfl⟩;go_wp2_with fail;((with_reducible refine HEn.out.mono ?_); rintro e we ⟨v, rfl, hS⟩)
       obtain ⟨Av, cv, rfl⟩ := hS.slice;have HZe := hid (show ZIn we Av (enV N X) by obtain ⟨A', c', e, hz, _⟩ := hS.zin; cases e; exact hz);have HBe := hid (below_then HBr.out hS.2);have HKe := hid (HKm.out.below hS.2);have HZxe := hid (HZx.out.below hS.2);obtain ⟨ne, hne⟩ : ∃ ne, ne = (enV N X).length := ⟨_, rfl⟩;have HNe := hid hne;rw [← hne] at HEl ⊢;clear hS HEn HBr HKm HZx b0 b1 b2 b3 hne;generalize enV N X = E at *;have hne60 := HEl.out;go_wp2_with fail;go_loopg [53] (ne) (fun g iv wr => C3I N LL X E ne w0 we mb g iv wr);case atStart => exact ⟨0, by omega, rfl, by simp, HKe.out, HBe.out, Below.refl _ _⟩
       case round =>
        clear HBe HKe;obtain ⟨j, hj, rfl, hp, hKm, hB, hBe⟩ := hrel;have HJ := hid hj;have HPj := hid hp;have HKm := hid hKm;have HBr := hid hB;have HZer := hid (HZe.out.below hBe);have HZxr := hid (HZxe.out.below hBe);have HBer := hid hBe;have hjl : j ≤ ne := by omega
        obtain ⟨b0, b1, b2, b3⟩ := (HNb.out.below hB).cells;clear hj hp hB hKm hBe;by_cases hjt : j < ne
        · have hjt' : j < E.length := by rw [← HNe.out]; exact hjt
          obtain ⟨ae, rfl, hpe, q5⟩ := HZer.out j hjt';have HTj := hid (show (E.take (j + 1)).all (okF N LL X) = ((E.take j).all (okF N LL X) && okF N LL X E[j]) by rw [List.take_succ_eq_append_getElem hjt', List.all_append]; simp);have HAn := hid (fun (hf : okF N LL X E[j] = false) => all_no (okF N LL X) (List.getElem_mem hjt') hf);generalize E[j] = t at *;have hfi := pFire_any N A n c Ax nx cx X t wr (HIn.out.below HBr.out) HNl.out (by omega) HZxr.out HXl.out (by omega);rw [show fire21 N X t = fireV N X t by unfold fire21; rw [HMx.out]; rfl] at hfi;have HFi := hid hfi;clear hfi hjt';by_cases h0 : (fireV N X t).2 = 0
          · have HFy := hid (fv_yes HFi.out h0);have HMy := hid (fire_mk HMx.out h0);have HF := hid (show okF N LL X t = decide ((fireV N X t).1 ∈ LL) by unfold okF; rw [decide_eq_true h0]; rfl);clear HFi h0;generalize (fireV N X t).1 = Y at *;have HOk := hid (mk_okZ HMy.out);go_wp2_with fail;((with_reducible refine HFy.out.mono ?_); rintro e w4 ⟨v4, rfl, hS4⟩)
            obtain ⟨A4, c4, rfl⟩ := hS4.slice;have HB4 := hid (below_then HBr.out hS4.2);have HBe4 := hid (below_then HBer.out hS4.2);have HKm4 := hid (HKm.out.below hS4.2);have HKy := hid (key_any A4 Y.length c4 Y w4 (show ZIn w4 A4 Y by obtain ⟨A', c', e, hz, _⟩ := hS4.zin; cases e; exact hz) rfl (HOk.out.2) HOk.out.1 (HT.out.below HB4.out));clear hS4 HFy;by_cases hmem : Y ∈ LL
            · have HV := hid (show (E.take (j + 1)).all (okF N LL X) = true by rw [HTj.out, HPj.out, HF.out, decide_eq_true hmem]; rfl);go_wp2_with fail;((with_reducible refine HKy.out.mono ?_); rintro e w5 ⟨rfl, hb5⟩)
              have HB5 := hid (below_then HB4.out hb5);have HBe5 := hid (below_then HBe4.out hb5);have HKm5 := hid (HKm4.out.below hb5);have hlook := HKm5.out.look HOk.out;rw [decide_eq_true hmem] at hlook;clear hb5 hmem;go_wp2_with fail;go_roundg (gk - 1);case measure => have := HJ.out; omega
              case rel => exact ⟨j + 1, by have := HJ.out; omega, by go_num, HV.out, HKm5.out, HB5.out, HBe5.out⟩
            · have HV := hid (show closedB N M LL = false by
               unfold closedB;rw [HNo.out (by rw [← HEa.out]; exact HAn.out (by rw [HF.out, decide_eq_false hmem]))]; simp)
              go_wp2_with fail;((with_reducible refine HKy.out.mono ?_); rintro e w5 ⟨rfl, hb5⟩)
              have HB5 := hid (below_then HB4.out hb5);have HKm5 := hid (HKm4.out.below hb5);have hlook := HKm5.out.look HOk.out;rw [decide_eq_false hmem] at hlook;clear hb5 hmem;go_wp2_with fail;go_ret;exact ⟨ret_bool HV.out.symm, HB.out.trans (HB5.out.mono HB.out.size)⟩
          · have HFn := hid (fv_no HFi.out h0);have HV := hid (show closedB N M LL = false by
             unfold closedB;rw [HNo.out (by rw [← HEa.out]; exact HAn.out (by unfold okF; rw [decide_eq_false h0]; rfl))]; simp)
            have q6 : ((fireV N X t).2 != 0) = true := by rw [bne_iff_ne]; exact h0
            clear HFi h0;generalize (fireV N X t).2 = er at *;go_wp2_with fail;((with_reducible refine HFn.out.mono ?_); rintro e w4 ⟨rfl, hb4⟩)
            have HB4 := hid (below_then HBr.out hb4);go_wp2_with fail;go_ret;exact ⟨ret_bool HV.out.symm, HB.out.trans (HB4.out.mono HB.out.size)⟩
        · have HV := hid (show (LL.take (k + 1)).all (okS N LL N.tr.length) = true by
           rw [HTk.out, HP.out, ← HEa.out];have h1 := HPj.out;rw [List.take_of_length_le (by rw [← HNe.out]; omega)] at h1;rw [h1]; rfl)
          go_wp2_with fail;go_roundg (go - 1);case measure => have := HK.out; omega
          case rel => exact ⟨k + 1, by have := HK.out; omega, by go_num, HV.out, HKm.out, HBr.out⟩
     · have HV := hid (show closedB N M LL = decide (M ∈ LL) by
        unfold closedB;have h1 := HP.out;rw [List.take_of_length_le (by rw [HLl.out]; omega)] at h1;rw [HAll.out, h1]; simp)
       have HOk := hid (mk_okZ HMk.out);have HKy := hid (key_any Am m cm M wr (HM.out.below HBr.out) HMl.out (by omega) HOk.out.1 (HT.out.below HBr.out));go_wp2_with fail;((with_reducible refine HKy.out.mono ?_); rintro e w5 ⟨rfl, hb5⟩)
       have HB5 := hid (below_then HBr.out hb5);have hlook := (HKm.out.below hb5).look HOk.out;go_wp2_with fail;go_ret;exact ⟨ret_bool HV.out.symm, HB.out.trans (HB5.out.mono HB.out.size)⟩
end Go.Proofs.YtkhmngljpfibcaaGreatDoor
