/- verdict.key: what a call returns; sets of markings by these keys. -/
import Derived.Test.YtkhmngljpfibcaaGreatDoorPUu
import Derived.Test.YtkhmngljpfibcaaGreatDoorPQb
import Derived.Test.YtkhmngljpfibcaaGreatDoorPIm
import Derived.Laws.IdiomStrings
import Derived.Lib.ItoaLen
namespace Go.Proofs.YtkhmngljpfibcaaGreatDoor
set_option maxRecDepth 100000
set_option maxHeartbeats 3200000
open Go.Lib (hid)
open Go.RowKit Go.WideShapes

theorem conv_own (w : World) (B n cap : Nat) (a : Option Addr) (l : List UInt8) (hn : n = l.length) (hl : 0 < l.length) (h : w.ownsRow B 5 1 (.slice a n cap) n (Lib.byteCells l)) :
 (convert 145 9 (.slice a n cap)).run Tryz.prog w = .ok (.string ⟨l.toArray⟩) w := by
 rcases h.2 with ⟨hv, h0⟩ | ⟨g, cap', cur, hv, _, hh, hle, _, hsz, htk⟩
 · omega
 · injection hv with h1 _ h2;subst h1 h2 hn;refine run_convert_bytes_back w _ _ 5 ⟨g, 0, none⟩ cap l Tryz.underlying145 Tryz.underlying5 Tryz.underlying9 fun j hj => ?_
   have hg : w.cell? ⟨g, j, none⟩ = (Lib.byteCells l)[j]? := h.cellAt j (by omega);have e : (⟨g, 0, none⟩ : Addr).add j = ⟨g, j, none⟩ := by unfold Addr.add; split <;> simp_all
   rw [e, hg];simp [Lib.byteCells, List.getElem?_eq_getElem hj]
def RB (w wr : World) (v : Value) (acc : List UInt8) : Prop := wr.ownsRow w.heap.size 5 1 v acc.length (Lib.byteCells acc) ∧ Below w.heap.size w wr
theorem RB.own {w wr : World} {v : Value} {acc : List UInt8} (h : RB w wr v acc) : wr.ownsRow w.heap.size 5 1 v acc.length (Lib.byteCells acc) := h.1
theorem RB.size {w wr : World} {v : Value} {acc : List UInt8} (h : RB w wr v acc) : w.heap.size ≤ wr.heap.size := h.2.size
theorem RB.slice {w wr : World} {v : Value} {acc : List UInt8} (h : RB w wr v acc) : ∃ o c, v = .slice o acc.length c := by
 rcases h.own.2 with ⟨hv, hn⟩ | ⟨g, cap, cur, hv, _⟩
 · exact ⟨none, 0, by rw [hv, hn]⟩
 · exact ⟨_, _, hv⟩
theorem own_len (o : Option Addr) (n m c : Nat) : (Value.slice o n c).ownBlock = (Value.slice o m c).ownBlock := by cases o <;> rfl
theorem RB.push {w wr w' : World} {v v' : Value} {acc : List UInt8} {c : UInt8} {o : Obj} (h : RB w wr v acc) (ho : w'.ownsRow w.heap.size 5 1 v' (acc.length + 1) (Lib.byteCells acc ++ [.int .u8 (c.toNat : Int)])) {row : Option Nat} (hg : (wr.alloc o).grownBy w' row) (hr : row = v.ownBlock) : RB w w' v' (acc ++ [c]) := by
 subst hr;refine ⟨?_, ?_⟩
 · simpa [Lib.byteCells] using ho
 · exact (h.2.alloc h.2.size o).grown hg (by have := h.2.size; simp; omega) (fun k hk => (h.1.lt k hk).1)
theorem RB.start0 (w : World) : RB w w (.slice none 0 0) [] := ⟨World.ownsRow_nil _ _ _ _, Below.refl _ _⟩
theorem conv_all (w : World) (B n cap : Nat) (a : Option Addr) (l : List UInt8) (hn : n = l.length) (h : w.ownsRow B 5 1 (.slice a n cap) n (Lib.byteCells l)) :
 (convert 145 9 (.slice a n cap)).run Tryz.prog w = .ok (.string ⟨l.toArray⟩) w := by
 rcases Nat.eq_zero_or_pos l.length with h0 | h0
 · have hl : l = [] := List.eq_nil_of_length_eq_zero h0;subst hl;obtain rfl : n = 0 := hn;cases a <;> rfl
 · exact conv_own w B n cap a l hn h0 h

def kbL (M : List Int) : List UInt8 := M.map fun k => UInt8.ofNat k.toNat
def okB (M : List Int) : Prop := (∀ x ∈ M, 0 ≤ x ∧ x ≤ 100) ∧ M.length ≤ 1000
theorem kb_byte {k : Int} (h0 : 0 ≤ k) (h1 : k ≤ 100) : ((UInt8.ofNat k.toNat).toNat : Int) = k := by
 simp [UInt8.toNat_ofNat']; omega
theorem kbL_inj : ∀ (a b : List Int), okB a → okB b → kbL a = kbL b → a = b := by
 have key : ∀ (a b : List Int), (∀ x ∈ a, 0 ≤ x ∧ x ≤ 100) → (∀ x ∈ b, 0 ≤ x ∧ x ≤ 100) → kbL a = kbL b → a = b := by
  intro a
  induction a with
  | nil =>
   intro b _ _ h;cases b with
   | nil => rfl
   | cons y b => simp [kbL] at h
  | cons x a ih =>
   intro b ha hb h;cases b with
   | nil => simp [kbL] at h
   | cons y b =>
    unfold kbL at h;rw [List.map_cons, List.map_cons] at h;injection h with h1 h2;have hx := ha x (List.mem_cons_self ..);have hy := hb y (List.mem_cons_self ..);have e1 := kb_byte hx.1 hx.2;have e2 := kb_byte hy.1 hy.2;rw [h1, e2] at e1;rw [e1, ih b (fun z hz => ha z (List.mem_cons_of_mem _ hz)) (fun z hz => hb z (List.mem_cons_of_mem _ hz)) h2]
 intro a b ha hb h;exact key a b ha.1 hb.1 h
theorem kbL_take (M : List Int) (k : Nat) (h : k < M.length) : kbL (M.take (k + 1)) = kbL (M.take k) ++ [UInt8.ofNat M[k].toNat] := by
 unfold kbL; rw [List.take_succ_eq_append_getElem h, List.map_append]; rfl
theorem kbL_len (M : List Int) : (kbL M).length = M.length := by unfold kbL; rw [List.length_map]
theorem vkey_any (A : Option Addr) (n c : Nat) (M : List Int) (w : World) (h : ZIn w A M) (hn : M.length = n) (hM : okB M) :
 Calls Tryz.prog 206 #[.slice A n c] w fun e w' => e = .returned (.string ⟨(kbL M).toArray⟩) ∧ Below w.heap.size w w' := by
 obtain ⟨i0, hi, hz0, hz1, hz2⟩ := info_parts byteInfo;have HI := hid (And.intro hi (And.intro hz0 (And.intro hz1 hz2)));have H0 := hid (RB.start0 w);have HZ := hid h;have HN := hid hn;have HOk := hid hM.1;have hb : n ≤ 1000 := by have := hM.2; omega
 clear hi hz0 hz1 hz2 h hn hM;go_enter Tryz.func206, Tryz.ntmps206;go_wp2_with fail;go_loopg [8, 3] (n) (fun g iv v wr => ∃ k : Nat, k + g = n ∧ iv = .int .i64 k ∧ RB w wr v (kbL (M.take k)));case atStart => exact ⟨0, by omega, rfl, H0.out⟩
 case round =>
  obtain ⟨k, hk, rfl, hR⟩ := hrel;have HK := hid hk;have HS := hid hR;have HZr := hid (HZ.out.below hR.2);obtain ⟨vo, vc, rfl⟩ := hR.slice;have hle : k ≤ n := by omega
  have HLk := hid (show (kbL (M.take k)).length = k by rw [kbL_len, List.length_take, HN.out]; omega);have hla : (kbL (M.take k)).length ≤ 1000 := by rw [HLk.out]; omega
  clear hk hR;by_cases hlt : k < n
  · have hlt' : k < M.length := by rw [HN.out]; exact hlt
    obtain ⟨ad, rfl, hpa, q0⟩ := HZr.out k hlt';have HT := hid (kbL_take M k hlt');obtain ⟨hx0, hx1⟩ := HOk.out _ (List.getElem_mem hlt');have hxb := kb_byte hx0 hx1;generalize M[k] = x at *;generalize UInt8.ofNat x.toNat = b at *;subst hxb;clear hlt';generalize kbL (M.take k) = acc at *;have hb0 : (0 : Int) ≤ (b.toNat : Int) := by omega
    have hb9 : (b.toNat : Int) < 256 := by omega
    clear HLk;go_wp2_with (at_builtin; refine wpList_append_own _ rfl _ _ 145 rfl w.heap.size 5 i0 (.int .u8 0) 1 1 Tryz.underlying145 HI.out.1 HI.out.2.1 HI.out.2.2.1 HI.out.2.2.2 rfl (by decide) (.slice vo acc.length vc) _ _ rfl (HS.out.own.alloc _) ⟨wr.heap.size, 0, none⟩ 1 1 [.int .u8 ((b).toNat : Int)] rfl rfl ?c1 ?c2 ?c3 ?c4 ?c5 ?_);case c1 => intro j u hj; match j, hj with | 0, hj => simp at hj; subst hj; simp [Addr.add] | j + 1, hj => simp at hj
    case c2 => intro u hu; simp at hu; subst hu; rfl
    case c3 => unfold maxLen; omega
    case c4 => omega
    case c5 => have := HS.out.size; simp; omega
    intro vN w2 hown hgrow _;replace HS := hid (HS.out.push (c := b) (by simpa using hown) hgrow (own_len _ _ _ _));clear hown hgrow;obtain ⟨vo, vc, rfl⟩ := HS.out.slice;go_wp2_with fail;go_roundg (gk - 1);case measure => have := HK.out; omega
    case rel => exact ⟨k + 1, by have := HK.out; omega, by go_num, by rw [HT.out]; simpa using HS.out⟩
  · have HE := hid (show kbL (M.take k) = kbL M by rw [List.take_of_length_le (by rw [HN.out]; omega)]);rw [HE.out] at HS ⊢;clear HE HLk hla;have HCV := hid (conv_all wr w.heap.size (kbL M).length vc vo (kbL M) rfl HS.out.own);generalize hacc : kbL M = acc at *;have HA := hid hacc;clear hacc;go_wp2_with fail;rw [HCV.out];simp only [Result.andThen];rw [Oper.upon_value];go_wp2_with fail;go_ret;exact ⟨ret_str (by rw [HA.out]), HS.out.2⟩
def vlit (z : List Int) : Lit := .string (kbL z)
theorem vlit_inj {a b : List Int} (ha : okB a) (hb : okB b) (h : vlit a = vlit b) : a = b := by unfold vlit at h; injection h with h; exact kbL_inj a b ha hb h
theorem vlit_is (z : List Int) : WideAt.IsKeyLit (vlit z) := trivial
theorem vlit_key {z : List Int} (h : okB z) : keyOf Tryz.prog 9 (.string ⟨(kbL z).toArray⟩) = some (vlit z) := by
 have := kbL_len z;exact WideMaps.keyOf_string_mk Tryz.underlying9 (by have h2 := h.2; unfold maxLen; simp [ByteArray.size]; omega)
def KVm (w : World) (mb : Nat) (L : List (List Int)) : Prop :=
 ∃ (n : Nat) (D : DataW Unit), w.ownsMap Tryz.prog 9 (plainElem Tryz.prog 4) mb n D ∧ n ≤ L.length ∧ (∀ z ∈ L, okB z) ∧ (∀ z, okB z → Maps.has D (vlit z) = decide (z ∈ L)) ∧ ∀ z ∈ L, ∀ zd, D.atKey (vlit z) zd = .lit (.bool true)
theorem KVm.made (w : World) : KVm (w.alloc (.map #[] 0)) w.heap.size [] :=
 ⟨0, .map [], World.ownsMap_made _ _ _ _, Nat.le_refl _, fun z h => by simp at h, fun z _ => rfl, fun z h => by simp at h⟩
theorem KVm.below {w w' : World} {mb : Nat} {L : List (List Int)} (h : KVm w mb L) (hb : Below w.heap.size w w') : KVm w' mb L := by
 obtain ⟨n, D, h1, h2⟩ := h;have hlt := h1.lt;obtain ⟨es, clock, hb', r⟩ := h1;exact ⟨n, D, ⟨es, clock, by rw [hb.block mb hlt]; exact hb', r⟩, h2⟩
theorem KVm.look {w : World} {mb : Nat} {L : List (List Int)} (h : KVm w mb L) {z : List Int} (hz : okB z) :
 (Instr.lookup 208 (.map (some mb)) (.string ⟨(kbL z).toArray⟩) false).run Tryz.prog w = .ok (.bool (decide (z ∈ L))) w := by
 obtain ⟨n, D, h1, h2, _, h3, h4⟩ := h;obtain ⟨v, ps, hrun, hR⟩ := h1.lookup (Maps.string_keyed Tryz.underlying9) Tryz.underlying208 (zeroBool w) (plainElem_bool Tryz.underlying4 false) (vlit_key hz);rw [hrun];obtain ⟨x, rfl, hx⟩ := plainElem_bool_inv Tryz.underlying4 hR;simp only [Prod.mk.injEq] at hx;by_cases hm : z ∈ L
 · rw [h4 z hm] at hx;rw [decide_eq_true hm, litb_inj hx.1]
 · have : D.atKey (vlit z) (.lit (.bool false)) = .lit (.bool false) := Maps.atKey_of_not_has (by rw [h3 z hz]; simpa using hm) _;rw [this] at hx;rw [decide_eq_false hm, litb_inj hx.1]
theorem KVm.store {w : World} {mb : Nat} {L : List (List Int)} (h : KVm w mb L) {z : List Int} (hz : okB z) (hl : L.length < 9223372036854775807) :
 ∃ w', (Instr.mapUpdate 208 (.map (some mb)) (.string ⟨(kbL z).toArray⟩) (.bool true)).run Tryz.prog w = .ok () w' ∧ KVm w' mb (L ++ [z]) ∧ w.grownBy w' (some mb) := by
 obtain ⟨n, D, h1, h2, ho, h3, h4⟩ := h;obtain ⟨w', hrun, hown, hgr⟩ := h1.update (Maps.string_keyed Tryz.underlying9) Tryz.underlying208 (by unfold maxLen; omega) (vlit_key hz) (plainElem_bool Tryz.underlying4 true);have hI : Maps.IsMap D := h1.isMap;have ho' : ∀ y ∈ L ++ [z], okB y := by
  intro y hy;rcases List.mem_append.1 hy with h5 | h5
  · exact ho y h5
  · have : y = z := by simpa using h5
    rw [this]; exact hz
 refine ⟨w', hrun, ⟨n + 1, _, hown, by rw [List.length_append]; simp; omega, ho', fun y hy => ?_, fun y hy zd => ?_⟩, hgr⟩
 · by_cases e : y = z
   · subst e;rw [Maps.has_put_same hI (vlit_is _)]; simp
   · rw [Maps.has_put_other (fun h => e (vlit_inj hy hz h)), h3 y hy]; simp [e]
 · by_cases e : y = z
   · subst e;rw [Maps.atKey_put_same hI (vlit_is _)]
   · rw [Maps.atKey_put_other (fun h => e (vlit_inj (ho' y hy) hz h))];refine h4 y ?_ zd;rcases List.mem_append.1 hy with h5 | h5
     · exact h5
     · simp at h5; exact absurd h5 e
end Go.Proofs.YtkhmngljpfibcaaGreatDoor
