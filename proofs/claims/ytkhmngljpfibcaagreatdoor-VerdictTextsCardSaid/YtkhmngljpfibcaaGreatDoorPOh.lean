/- fields and numbers of reference 29: what a call returns. -/
import Derived.Test.YtkhmngljpfibcaaGreatDoorPUu
import Derived.Test.YtkhmngljpfibcaaGreatDoorPOj
namespace Go.Proofs.YtkhmngljpfibcaaGreatDoor
set_option maxRecDepth 100000
set_option maxHeartbeats 12800000
open Go.Lib (hid)
open Go.RowKit

theorem strInfo29 : (Tryz.prog.info? 9).map (fun i => (i.zero, i.size, i.bytes)) = some (some (.string ⟨#[]⟩), 1, 16) := by kernel_rfl
theorem intInfo29 : (Tryz.prog.info? 3).map (fun i => (i.zero, i.size, i.bytes)) = some (some (.int .i64 0), 1, 8) := by kernel_rfl
def strC (s : ByteArray) : List Value := [.string s]
def SW (w0 w : World) (v : Value) (L : List ByteArray) : Prop := w.ownsRow w0.heap.size 9 1 v L.length (L.flatMap strC) ∧ Below w0.heap.size w0 w
theorem SW.start {w0 w : World} (hb : Below w0.heap.size w0 w) : SW w0 w (.slice none 0 0) [] := ⟨World.ownsRow_nil _ _ _ _, hb⟩
theorem SW.size {w0 w : World} {v : Value} {L : List ByteArray} (h : SW w0 w v L) : w0.heap.size ≤ w.heap.size := h.2.size
theorem SW.slice {w0 w : World} {v : Value} {L : List ByteArray} (h : SW w0 w v L) : ∃ A c, v = .slice A L.length c := by
 obtain ⟨A, c, e, _⟩ := row_slice h.1;exact ⟨A, c, e⟩
theorem SW.push {w0 w w' : World} {v v' : Value} {L : List ByteArray} {x : ByteArray} {o : Obj} (h : SW w0 w v L) (ho : w'.ownsRow w0.heap.size 9 1 v' (L.length + 1) (L.flatMap strC ++ [.string x])) (hg : (w.alloc o).grownBy w' v.ownBlock) : SW w0 w' v' (L ++ [x]) := by
 refine ⟨?_, (h.2.alloc h.2.size o).grown hg (by have := h.2.size; simp; omega) (fun k hk => (h.1.lt k hk).1)⟩;rw [List.length_append, List.flatMap_append];simpa [strC] using ho
def SrIn (w : World) (A : Option Addr) (L : List ByteArray) : Prop := Rd strC 1 w A L
theorem SrIn.at_ {w : World} {A : Option Addr} {L : List ByteArray} (h : SrIn w A L) {i : Nat} (hi : i < L.length) : ∃ ad, A = some ad ∧ (ad.add i).block < w.heap.size ∧ w.cell? (ad.add i) = some (.string L[i]) := by
 obtain ⟨ad, e, h1, h2⟩ := h i hi;refine ⟨ad, e, by simpa using h1, ?_⟩;have := h2 0 _ (by omega) rfl;simpa using this
theorem SW.rd {w0 w : World} {v : Value} {L : List ByteArray} (h : SW w0 w v L) : ∃ A c, v = .slice A L.length c ∧ SrIn w A L ∧ L.length ≤ 9223372036854775807 := by
 obtain ⟨A, c, e, h1, h2, h3, h4, _⟩ := own_rd (c := strC) (fun _ => rfl) (by decide) h.1;exact ⟨A, c, e, h4, by omega⟩
def FdR (c : UInt8) (S : List UInt8) (i fr : Nat) (L : List (List UInt8)) : Prop :=
 (i ≤ S.length → fr ≤ i ∧ cutAt c S = L ++ cutAt c (S.drop fr) ∧ c ∉ (S.drop fr).take (i - fr)) ∧ (S.length < i → cutAt c S = L) ∧ L.length ≤ i
theorem FdR.start (c : UInt8) (S : List UInt8) : FdR c S 0 0 [] := ⟨fun _ => ⟨Nat.le_refl _, rfl, by simp⟩, fun h => absurd h (Nat.not_lt_zero _), Nat.zero_le _⟩
theorem FdR.on {c : UInt8} {S : List UInt8} {i fr : Nat} {L : List (List UInt8)} (h : FdR c S i fr L) (hi : i < S.length) (hn : S[i] ≠ c) : FdR c S (i + 1) fr L := by
 obtain ⟨h1, h2, h3⟩ := h;obtain ⟨a, b, d⟩ := h1 (by omega);refine ⟨fun _ => ⟨by omega, b, ?_⟩, fun h => absurd h (by omega), by omega⟩;have hk : i - fr < (S.drop fr).length := by rw [List.length_drop]; omega
 rw [show i + 1 - fr = (i - fr) + 1 by omega, List.take_succ_eq_append_getElem hk, List.mem_append];rintro (h4 | h4)
 · exact d h4
 · rw [List.mem_singleton, List.getElem_drop] at h4;exact hn (by rw [h4]; congr 1; omega)
theorem FdR.cut {c : UInt8} {S : List UInt8} {i fr : Nat} {L : List (List UInt8)} (h : FdR c S i fr L) (hi : i < S.length) (hn : S[i] = c) : FdR c S (i + 1) (i + 1) (L ++ [(S.drop fr).take (i - fr)]) := by
 obtain ⟨h1, h2, h3⟩ := h;obtain ⟨a, b, d⟩ := h1 (by omega);refine ⟨fun _ => ⟨Nat.le_refl _, ?_, by simp⟩, fun h => absurd h (by omega), by rw [List.length_append, List.length_singleton]; omega⟩;have e : S.drop fr = (S.drop fr).take (i - fr) ++ c :: S.drop (i + 1) := by
  have h5 : (S.drop fr).drop (i - fr) = S.drop i := by rw [List.drop_drop, show fr + (i - fr) = i by omega]
  have h6 : S.drop i = c :: S.drop (i + 1) := by rw [← hn]; exact List.drop_eq_getElem_cons hi
  rw [← h6, ← h5, List.take_append_drop]
 rw [b, List.append_assoc]
 congr 1
 conv => lhs; rw [e]
 rw [cutAt_app c _ _ d]; rfl
theorem FdR.last {c : UInt8} {S : List UInt8} {i fr : Nat} {L : List (List UInt8)} (h : FdR c S i fr L) (hi : i = S.length) (k : Nat) : FdR c S (i + 1) k (L ++ [(S.drop fr).take (i - fr)]) := by
 obtain ⟨h1, h2, h3⟩ := h;obtain ⟨a, b, d⟩ := h1 (by omega);refine ⟨fun h => absurd h (by omega), fun _ => ?_, by rw [List.length_append, List.length_singleton]; omega⟩;have e : (S.drop fr).take (i - fr) = S.drop fr := List.take_of_length_le (by rw [List.length_drop]; omega);rw [e] at d ⊢;rw [b, cutAt_no c _ d]
theorem FdR.fr {c : UInt8} {S : List UInt8} {i fr : Nat} {L : List (List UInt8)} (h : FdR c S i fr L) (hi : i ≤ S.length) : fr ≤ i := (h.1 hi).1
theorem FdR.done {c : UInt8} {S : List UInt8} {i fr : Nat} {L : List (List UInt8)} (h : FdR c S i fr L) (hi : S.length < i) : cutAt c S = L := h.2.1 hi
def FdPo (S : List UInt8) (w : World) (e : Ending) (w' : World) : Prop :=
 ∃ (A : Option Addr) (c : Nat) (L : List ByteArray), e = .returned (.slice A L.length c) ∧ SW w w' (.slice A L.length c) L ∧ L.map (fun s => s.data.toList) = cutAt 32 S
theorem byte_ne {s : ByteArray} {i : Nat} (h : i < s.size) (hn : (s[i].toNat : Int) ≠ 32) : s.data.toList[i]'(by rw [len_byte]; exact h) ≠ 32 := by
 intro e;apply hn;have : s.data.toList[i]'(by rw [len_byte]; exact h) = s[i] := rfl;rw [← this, e]; rfl
theorem byte_eq {s : ByteArray} {i : Nat} (h : i < s.size) (hn : (s[i].toNat : Int) = 32) : s.data.toList[i]'(by rw [len_byte]; exact h) = 32 := by
 have : s.data.toList[i]'(by rw [len_byte]; exact h) = s[i] := rfl;rw [this];apply UInt8.toNat.inj;show s[i].toNat = 32;omega
theorem rfields_any (s : ByteArray) (w : World) (hs : s.size ≤ 1000000) : Calls Tryz.prog 104 #[.string s] w (FdPo s.data.toList w) := by
 obtain ⟨i0, hj, hz0, hz1, hz2⟩ := info_parts strInfo29;have HI := hid (And.intro hj (And.intro hz0 (And.intro hz1 hz2)));have HLn := hid (len_byte s);clear hj hz0 hz1 hz2;go_enter Tryz.func104, Tryz.ntmps104;go_wp2_with fail;go_loopg [3, 4, 5] (s.size + 1) (fun g vv fv iv wr => ∃ (i fr : Nat) (v : Value) (L : List ByteArray), i + g = s.size + 1 ∧ iv = .int .i64 (i : Int) ∧ fv = .int .i64 (fr : Int) ∧ vv = v ∧ SW w wr v L ∧ FdR 32 s.data.toList i fr (L.map (fun s => s.data.toList)));case atStart => exact ⟨0, 0, _, [], by omega, rfl, rfl, rfl, SW.start (Below.refl _ _), FdR.start _ _⟩
 case round =>
  obtain ⟨i, fr, v, L, hk, rfl, rfl, rfl, hS, hF⟩ := hrel;have HK := hid hk;have HS := hid hS;have HF := hid hF;have hll : L.length ≤ i := by have := hF.2.2; rw [List.length_map] at this; exact this
  have hsz := hS.size;obtain ⟨vo, vc, rfl⟩ := hS.slice;clear hk hS hF;by_cases hlt : i < s.size
  · have hfr : fr ≤ i := HF.out.fr (by rw [HLn.out]; omega);have hli : (i : Int) ≤ (s.size : Int) := by omega
    have hfi : (fr : Int) ≤ (i : Int) := by omega
    have q0 : ((i : Int) == (s.size : Int)) = false := by simp; omega
    by_cases h32 : (s[i].toNat : Int) = 32
    · have q1 : ((s[i].toNat : Int) == 32) = true := by rw [h32]; rfl
      have HN := hid (HF.out.cut (by rw [HLn.out]; exact hlt) (byte_eq hlt h32));clear h32;go_wp2_with (at_builtin; refine wpList_append_own _ rfl _ _ 134 rfl w.heap.size 9 i0 (.string ⟨#[]⟩) 1 16 Tryz.underlying134 HI.out.1 HI.out.2.1 HI.out.2.2.1 HI.out.2.2.2 rfl (by decide) (.slice vo L.length vc) _ _ rfl (HS.out.1.alloc _) ⟨wr.heap.size, 0, none⟩ 1 1 [.string (s.extract fr i)] rfl rfl ?c1 ?c2 ?c3 ?c4 ?c5 ?_);case c1 => intro j u hj; match j, hj with | 0, hj => simp at hj; subst hj; simp [Addr.add] | j + 1, hj => simp at hj
      case c2 => intro u hu; simp at hu; subst hu; rfl
      case c3 => unfold maxLen; omega
      case c4 => omega
      case c5 => have := HS.out.size; simp; omega
      intro v' w7 hown7 hgrow7 _;replace HS := hid (HS.out.push (x := s.extract fr i) hown7 hgrow7);clear hown7 hgrow7;go_wp2_with fail;go_roundg (gk - 1);case measure => have := HK.out; omega
      case rel => exact ⟨i + 1, i + 1, _, _, by have := HK.out; omega, by go_num, by go_num, rfl, HS.out, by rw [List.map_append, List.map_cons, List.map_nil, Lib.extract_data]; exact HN.out⟩
    · have q1 : ((s[i].toNat : Int) == 32) = false := by simpa using h32
      have HN := hid (HF.out.on (by rw [HLn.out]; exact hlt) (byte_ne hlt h32));clear h32;go_wp2_with fail;go_roundg (gk - 1);case measure => have := HK.out; omega
      case rel => exact ⟨i + 1, fr, _, L, by have := HK.out; omega, by go_num, rfl, rfl, HS.out, HN.out⟩
  · by_cases hie : i = s.size
    · have hfr : fr ≤ i := HF.out.fr (by rw [HLn.out]; omega);have hli : (i : Int) ≤ (s.size : Int) := by omega
      have hfi : (fr : Int) ≤ (i : Int) := by omega
      have q0 : ((i : Int) == (s.size : Int)) = true := by simp; omega
      have HN := hid (HF.out.last (by rw [HLn.out]; exact hie) (i + 1));clear hie hlt;go_wp2_with (at_builtin; refine wpList_append_own _ rfl _ _ 134 rfl w.heap.size 9 i0 (.string ⟨#[]⟩) 1 16 Tryz.underlying134 HI.out.1 HI.out.2.1 HI.out.2.2.1 HI.out.2.2.2 rfl (by decide) (.slice vo L.length vc) _ _ rfl (HS.out.1.alloc _) ⟨wr.heap.size, 0, none⟩ 1 1 [.string (s.extract fr i)] rfl rfl ?e1 ?e2 ?e3 ?e4 ?e5 ?_);case e1 => intro j u hj; match j, hj with | 0, hj => simp at hj; subst hj; simp [Addr.add] | j + 1, hj => simp at hj
      case e2 => intro u hu; simp at hu; subst hu; rfl
      case e3 => unfold maxLen; omega
      case e4 => omega
      case e5 => have := HS.out.size; simp; omega
      intro v' w7 hown7 hgrow7 _;replace HS := hid (HS.out.push (x := s.extract fr i) hown7 hgrow7);clear hown7 hgrow7;go_wp2_with fail;go_roundg (gk - 1);case measure => have := HK.out; omega
      case rel => exact ⟨i + 1, i + 1, _, _, by have := HK.out; omega, by go_num, by go_num, rfl, HS.out, by rw [List.map_append, List.map_cons, List.map_nil, Lib.extract_data]; exact HN.out⟩
    · have hgt : ¬ ((i : Int) ≤ (s.size : Int)) := by omega
      have HE := hid (HF.out.done (by rw [HLn.out]; omega));clear hlt hie;go_wp2_with fail;go_ret;exact ⟨vo, vc, L, rfl, HS.out, HE.out.symm⟩
theorem numsR_app : ∀ a b : List (List UInt8), numsR (a ++ b) = match numsR a, numsR b with | some x, some y => some (x ++ y) | _, _ => none
 | [], b => by simp only [List.nil_append, numsR]; cases numsR b <;> rfl
 | s :: a, b => by
  rw [List.cons_append, numsR, numsR, numsR_app a b];cases numR s <;> cases numsR a <;> cases numsR b <;> rfl
theorem numsR_on {T : List (List UInt8)} {k : Nat} {Z : List Int} {z : Int} (h : numsR (T.take k) = some Z) (hk : k < T.length) (hz : numR T[k] = some z) : numsR (T.take (k + 1)) = some (Z ++ [z]) := by
 rw [List.take_succ_eq_append_getElem hk, numsR_app, h, numsR, hz]; rfl
theorem numsR_no {T : List (List UInt8)} {k : Nat} (hk : k < T.length) (hz : numR T[k] = none) : numsR T = none := by
 have e : T = T.take k ++ (T[k] :: T.drop (k + 1)) := by rw [← List.drop_eq_getElem_cons hk, List.take_append_drop]
 rw [e, numsR_app];have e2 : numsR (T[k] :: T.drop (k + 1)) = none := by rw [numsR, hz]
 rw [e2];cases numsR (List.take k T) <;> rfl
def NmPo (T : List (List UInt8)) (w : World) (e : Ending) (w' : World) : Prop := match numsR T with
 | none => e = .returned (.tuple #[.slice none 0 0, .bool false]) ∧ Below w.heap.size w w'
 | some Z => ∃ v, e = .returned (.tuple #[v, .bool true]) ∧ NS w w' v Z
theorem NmPo.no {T : List (List UInt8)} {w w' : World} (h : numsR T = none) (hb : Below w.heap.size w w') : NmPo T w (.returned (.tuple #[.slice none 0 0, .bool false])) w' := by
 unfold NmPo; rw [h]; exact ⟨rfl, hb⟩
theorem NmPo.yes {T : List (List UInt8)} {w w' : World} {Z : List Int} {v : Value} (h : numsR T = some Z) (hn : NS w w' v Z) : NmPo T w (.returned (.tuple #[v, .bool true])) w' := by
 unfold NmPo; rw [h]; exact ⟨v, rfl, hn⟩
def DgR (D : List UInt8) (m n : Nat) : Prop := n = dval (D.take m) ∧ (D.take m).all isDig = true ∧ n < 10 ^ m
theorem DgR.start (D : List UInt8) : DgR D 0 0 := ⟨rfl, rfl, by decide⟩
theorem dig_is {c : UInt8} (h1 : 48 ≤ (c.toNat : Int)) (h2 : (c.toNat : Int) ≤ 57) : isDig c = true := by unfold isDig; simp; omega
theorem dig_not {c : UInt8} (h : (c.toNat : Int) < 48 ∨ 57 < (c.toNat : Int)) : isDig c = false := by unfold isDig; simp; omega
theorem DgR.on {D : List UInt8} {m n : Nat} (h : DgR D m n) (hm : m < D.length) (h1 : 48 ≤ (D[m].toNat : Int)) (h2 : (D[m].toNat : Int) ≤ 57) : DgR D (m + 1) (10 * n + (D[m].toNat - 48)) := by
 obtain ⟨a, b, c⟩ := h;refine ⟨?_, ?_, ?_⟩
 · rw [List.take_succ_eq_append_getElem hm, dval_snoc, ← a]
 · rw [List.take_succ_eq_append_getElem hm, List.all_append, b]; simp [dig_is h1 h2]
 · rw [Nat.pow_succ]; omega
theorem DgR.fin {D : List UInt8} {n : Nat} (h : DgR D D.length n) : n = dval D ∧ D.all isDig = true := by
 obtain ⟨a, b, _⟩ := h;rw [List.take_length] at a b;exact ⟨a, b⟩
theorem numR_long {s : List UInt8} (h : 9 < s.length) : numR s = none := by unfold numR; rw [if_pos h]
theorem numR_bad {s : List UInt8} {m : Nat} (hm : m < (magR s).length) (h : isDig (magR s)[m] = false) : numR s = none := by
 unfold numR;split
 · rfl
 · rw [if_neg];intro h2;have := List.all_eq_true.1 h2 _ (List.getElem_mem hm);rw [h] at this; cases this
theorem numR_ok {s : List UInt8} (h9 : ¬ 9 < s.length) (h : (magR s).all isDig = true) : numR s = some (if negB s then -(dval (magR s) : Int) else (dval (magR s) : Int)) := by
 unfold numR; rw [if_neg h9, if_pos h]
theorem mag_neg {s : List UInt8} (h : negB s = true) : magR s = s.drop 1 := by unfold magR; rw [if_pos h]
theorem mag_pos {s : List UInt8} (h : negB s = false) : magR s = s.drop 0 := by unfold magR; rw [h]; rfl
theorem pow10_9 {m n : Nat} (h : n < 10 ^ m) (hm : m ≤ 9) : n ≤ 1000000000 := by
 have : 10 ^ m ≤ 10 ^ 9 := Nat.pow_le_pow_right (by omega) hm;have e : (10 : Nat) ^ 9 = 1000000000 := by decide
 omega
theorem rnumbers_any (A : Option Addr) (n c : Nat) (L : List ByteArray) (w : World) (h : SrIn w A L) (hn : L.length = n) (hn1 : 1 ≤ n) (hn2 : n ≤ 1000000) (hu : ∀ s ∈ L, s.size ≤ 1000000) : Calls Tryz.prog 106 #[.slice A n c] w (NmPo (L.map (fun s => s.data.toList)).tail w) := by
 obtain ⟨i0, hj, hz0, hz1, hz2⟩ := info_parts intInfo29;have HI := hid (And.intro hj (And.intro hz0 (And.intro hz1 hz2)));have H0 := hid h;have HNl := hid hn;have HU := hid hu;obtain ⟨T, hT⟩ : ∃ T, T = (L.map (fun s => s.data.toList)).tail := ⟨_, rfl⟩;have HTl := hid (show T.length = n - 1 by rw [hT, List.length_tail, List.length_map, hn]);have HTa := hid (show ∀ (k : Nat) (h : k < T.length) (h2 : k + 1 < L.length), T[k] = L[k + 1].data.toList by
  intro k h h2; subst hT; simp)
 rw [← hT];clear hj hz0 hz1 hz2 h hn hu hT;go_enter Tryz.func106, Tryz.ntmps106;go_wp2_with fail;go_loopg [4, 5] (n - 1) (fun g vv iv wr => ∃ (k : Nat) (v : Value) (Z : List Int), k + 1 + g = n ∧ iv = .int .i64 ((k : Int) + 1) ∧ vv = v ∧ NS w wr v Z ∧ numsR (T.take k) = some Z ∧ Z.length ≤ k);case atStart => exact ⟨0, _, [], by omega, rfl, rfl, NS.start (Below.refl _ _), rfl, Nat.le_refl _⟩
 case round =>
  obtain ⟨k, v, Z, hk, rfl, rfl, hS, hZ, hzl⟩ := hrel;have HK := hid hk;have HS := hid hS;have HZ := hid hZ;have hle : k + 1 ≤ n := by omega
  have hk9 : k ≤ 1000000 := by omega
  have hsz := hS.size;obtain ⟨vo, vc, rfl⟩ := hS.slice;clear hk hS hZ;by_cases hlt : k + 1 < n
  · have hlt' : k + 1 < L.length := by rw [HNl.out]; exact hlt
    have hkT : k < T.length := by rw [HTl.out]; omega
    obtain ⟨ad, rfl, hpa, q0'⟩ := H0.out.at_ hlt';have q0 : wr.cell? ⟨ad.block, ad.off + (k + 1), none⟩ = some (.string L[k + 1]) := by
     have h5 := cell_stays HS.out.2 q0';rw [show ad.add (k + 1) = ⟨ad.block, ad.off + (k + 1), none⟩ by unfold Addr.add; rw [if_neg (by omega)]] at h5;exact h5
    have HT := hid (HTa.out k hkT hlt');have HOn := hid (fun z hz => numsR_on (z := z) HZ.out hkT hz);have HNo := hid (numsR_no hkT);have hxs := HU.out _ (List.getElem_mem hlt');rw [HT.out] at HOn HNo;generalize L[k + 1] = x at *;have HXl := hid (len_byte x);have hlti : (k : Int) + 1 < (n : Int) := by omega
    clear q0' hlt' hkT hpa HT;by_cases hneg : negB x.data.toList = true
    · have h0 : 0 < x.size := by
       rw [← HXl.out];unfold negB at hneg;cases hx : x.data.toList with
       | nil => rw [hx] at hneg; simp at hneg
       | cons a l => simp
      have h45 : (x[0].toNat : Int) = 45 := by
       have h1 : x.data.toList.head? = some 45 := of_decide_eq_true hneg;have h2 : x.data.toList[0]? = some 45 := by rw [← List.head?_eq_getElem?]; exact h1
       obtain ⟨h3, h4⟩ := List.getElem?_eq_some_iff.1 h2;have h5 : x[0] = 45 := h4;rw [h5]; rfl
      have g1 : ((x[0].toNat : Int) == 45) = true := by rw [h45]; rfl
      have h0i : 0 < (x.size : Int) := by omega
      have HM := hid (mag_neg hneg);have HNg := hid hneg;clear h45 hneg;by_cases h9 : 9 < x.size
      · have h9i : 9 < (x.size : Int) := by omega
        have HX := hid (HNo.out (numR_long (by rw [HXl.out]; exact h9)));clear h9;go_wp2_with fail;go_ret2;exact NmPo.no HX.out HS.out.2
      have h9i : ¬ 9 < (x.size : Int) := by omega
      have HDl := hid (show (magR x.data.toList).length = x.size - 1 by rw [HM.out, List.length_drop, HXl.out]);go_wp2_with fail;obtain ⟨go, rfl⟩ : ∃ go, go = gk := ⟨_, rfl⟩;go_loopg [7, 9] (x.size - 1) (fun g nv jv wx => ∃ (j m : Nat), 1 + j + g = x.size ∧ nv = .int .i64 (m : Int) ∧ jv = .int .i64 (((1 + j : Nat) : Nat) : Int) ∧ DgR (magR x.data.toList) j m ∧ wr = wx);case atStart => exact ⟨0, 0, by omega, rfl, rfl, DgR.start _, rfl⟩
      case round =>
       obtain ⟨j, m, hk2, rfl, rfl, hD, rfl⟩ := hrel;have HK2 := hid hk2;have HD := hid hD;have hle2 : 1 + j ≤ x.size := by omega
       have hmb : m ≤ 1000000000 := pow10_9 hD.2.2 (by omega);obtain ⟨p, hp⟩ : ∃ p, p = 1 + j := ⟨_, rfl⟩;rw [← hp] at hle2 ⊢;have HP := hid hp;clear hk2 hD hp;by_cases hlt2 : p < x.size
       · have hjD : j < (magR x.data.toList).length := by rw [HDl.out]; have := HP.out; omega
         have HE := hid (show (magR x.data.toList)[j]'hjD = x[p] by
          have h5 := HP.out; subst h5;simp only [HM.out, List.getElem_drop];rfl)
         obtain ⟨m2, hm2⟩ : ∃ m2, m2 = 10 * m + (x[p].toNat - 48) := ⟨_, rfl⟩;have HM2 := hid hm2;have HOn2 := hid (show 48 ≤ (x[p].toNat : Int) → (x[p].toNat : Int) ≤ 57 → DgR (magR x.data.toList) (j + 1) m2 by rw [hm2, ← HE.out]; exact fun h1 h2 => HD.out.on hjD h1 h2);have HBd := hid (show (x[p].toNat : Int) < 48 ∨ 57 < (x[p].toNat : Int) → numR x.data.toList = none by rw [← HE.out]; exact fun h1 => numR_bad hjD (dig_not h1));have hc8 : (x[p].toNat : Int) < 256 := by have := x[p].toNat_lt; omega
         have hpi : (p : Int) < (x.size : Int) := by omega
         clear hjD HE hm2;by_cases h1 : (x[p].toNat : Int) < 48
         · have HV := hid (HNo.out (HBd.out (.inl h1)));go_wp2_with fail;go_ret2;exact NmPo.no HV.out HS.out.2
         have d1 : decide ((x[p].toNat : Int) < 48) = false := by simpa using h1
         by_cases h2 : 57 < (x[p].toNat : Int)
         · have HV := hid (HNo.out (HBd.out (.inr h2)));go_wp2_with fail;go_ret2;exact NmPo.no HV.out HS.out.2
         have d2 : decide (57 < (x[p].toNat : Int)) = false := by simpa using h2
         have g2 : 48 ≤ (x[p].toNat : Int) := by omega
         have g3 : (x[p].toNat : Int) ≤ 57 := by omega
         have g4 : (m : Int) ≤ 1000000000 := by omega
         clear h1 h2;go_wp2_with fail;go_roundg (gk - 1);case measure => have := HP.out; have := HK2.out; omega
         case rel => exact ⟨j + 1, m2, by have := HP.out; have := HK2.out; omega, by rw [HM2.out]; congr 1; omega, by congr 1; have := HP.out; omega, HOn2.out g2 g3, rfl⟩
       · have hps : p = x.size := by omega
         have hfin := (show DgR (magR x.data.toList) (magR x.data.toList).length m by rw [HDl.out, show x.size - 1 = j by have := HP.out; omega]; exact HD.out).fin;have HV := hid (HOn.out (-(m : Int)) (by rw [numR_ok (by rw [HXl.out]; omega) hfin.2, HNg.out, ← hfin.1]; rfl));have g4 : (m : Int) ≤ 1000000000 := by omega
         have hpi : ¬ (p : Int) < (x.size : Int) := by omega
         clear hfin hps;go_wp2_with (at_builtin; refine wpList_append_own _ rfl _ _ 27 rfl w.heap.size 3 i0 (.int .i64 0) 1 8 Tryz.underlying27 HI.out.1 HI.out.2.1 HI.out.2.2.1 HI.out.2.2.2 rfl (by decide) (.slice vo Z.length vc) _ _ rfl (HS.out.1.alloc _) ⟨wr.heap.size, 0, none⟩ 1 1 [.int .i64 (-(m : Int))] rfl rfl ?x1 ?x2 ?x3 ?x4 ?x5 ?_);try case x1 => intro j u hj; match j, hj with | 0, hj => simp at hj; subst hj; simp [Addr.add] | j + 1, hj => simp at hj
         case x2 => first | rfl | (intro u hu; simp at hu; subst hu; rfl)
         case x3 => unfold maxLen; omega
         case x4 => omega
         case x5 => have := HS.out.size; simp; omega
         intro v' w7 hown7 hgrow7 _;have HS7 := hid (HS.out.push (x := -(m : Int)) hown7 hgrow7);clear hown7 hgrow7;go_wp2_with fail;go_roundg (go - 1);case measure => have := HK.out; omega
         case rel => exact ⟨k + 1, _, _, by have := HK.out; omega, by go_num, rfl, HS7.out, HV.out, by rw [List.length_append, List.length_singleton]; omega⟩
    · have hneg : negB x.data.toList = false := by simpa using hneg
      have HM := hid (mag_pos hneg);have HNg := hid hneg;by_cases h0 : 0 < x.size
      · have h45 : (x[0].toNat : Int) ≠ 45 := by
         intro h6;have h1 : x.data.toList.head? = some x[0] := by
          rw [List.head?_eq_getElem?];exact List.getElem?_eq_getElem (by rw [HXl.out]; exact h0)
         unfold negB at hneg;rw [h1] at hneg;simp at hneg;exact hneg (UInt8.toNat.inj (by show x[0].toNat = 45; omega))
        have g1 : ((x[0].toNat : Int) == 45) = false := by simpa using h45
        have h0i : 0 < (x.size : Int) := by omega
        clear h45 hneg;by_cases h9 : 9 < x.size
        · have h9i : 9 < (x.size : Int) := by omega
          have HX := hid (HNo.out (numR_long (by rw [HXl.out]; exact h9)));clear h9;go_wp2_with fail;go_ret2;exact NmPo.no HX.out HS.out.2
        have h9i : ¬ 9 < (x.size : Int) := by omega
        have HDl := hid (show (magR x.data.toList).length = x.size - 0 by rw [HM.out, List.length_drop, HXl.out]);go_wp2_with fail;obtain ⟨go, rfl⟩ : ∃ go, go = gk := ⟨_, rfl⟩;go_loopg [7, 9] (x.size - 0) (fun g nv jv wx => ∃ (j m : Nat), 0 + j + g = x.size ∧ nv = .int .i64 (m : Int) ∧ jv = .int .i64 (((0 + j : Nat) : Nat) : Int) ∧ DgR (magR x.data.toList) j m ∧ wr = wx);case atStart => exact ⟨0, 0, by omega, rfl, rfl, DgR.start _, rfl⟩
        case round =>
         obtain ⟨j, m, hk2, rfl, rfl, hD, rfl⟩ := hrel;have HK2 := hid hk2;have HD := hid hD;have hle2 : 0 + j ≤ x.size := by omega
         have hmb : m ≤ 1000000000 := pow10_9 hD.2.2 (by omega);obtain ⟨p, hp⟩ : ∃ p, p = 0 + j := ⟨_, rfl⟩;rw [← hp] at hle2 ⊢;have HP := hid hp;clear hk2 hD hp;by_cases hlt2 : p < x.size
         · have hjD : j < (magR x.data.toList).length := by rw [HDl.out]; have := HP.out; omega
           have HE := hid (show (magR x.data.toList)[j]'hjD = x[p] by
            have h5 := HP.out; subst h5;simp only [HM.out, List.getElem_drop];rfl)
           obtain ⟨m2, hm2⟩ : ∃ m2, m2 = 10 * m + (x[p].toNat - 48) := ⟨_, rfl⟩;have HM2 := hid hm2;have HOn2 := hid (show 48 ≤ (x[p].toNat : Int) → (x[p].toNat : Int) ≤ 57 → DgR (magR x.data.toList) (j + 1) m2 by rw [hm2, ← HE.out]; exact fun h1 h2 => HD.out.on hjD h1 h2);have HBd := hid (show (x[p].toNat : Int) < 48 ∨ 57 < (x[p].toNat : Int) → numR x.data.toList = none by rw [← HE.out]; exact fun h1 => numR_bad hjD (dig_not h1));have hc8 : (x[p].toNat : Int) < 256 := by have := x[p].toNat_lt; omega
           have hpi : (p : Int) < (x.size : Int) := by omega
           clear hjD HE hm2;by_cases h1 : (x[p].toNat : Int) < 48
           · have HV := hid (HNo.out (HBd.out (.inl h1)));go_wp2_with fail;go_ret2;exact NmPo.no HV.out HS.out.2
           have d1 : decide ((x[p].toNat : Int) < 48) = false := by simpa using h1
           by_cases h2 : 57 < (x[p].toNat : Int)
           · have HV := hid (HNo.out (HBd.out (.inr h2)));go_wp2_with fail;go_ret2;exact NmPo.no HV.out HS.out.2
           have d2 : decide (57 < (x[p].toNat : Int)) = false := by simpa using h2
           have g2 : 48 ≤ (x[p].toNat : Int) := by omega
           have g3 : (x[p].toNat : Int) ≤ 57 := by omega
           have g4 : (m : Int) ≤ 1000000000 := by omega
           clear h1 h2;go_wp2_with fail;go_roundg (gk - 1);case measure => have := HP.out; have := HK2.out; omega
           case rel => exact ⟨j + 1, m2, by have := HP.out; have := HK2.out; omega, by rw [HM2.out]; congr 1; omega, by congr 1; have := HP.out; omega, HOn2.out g2 g3, rfl⟩
         · have hps : p = x.size := by omega
           have hfin := (show DgR (magR x.data.toList) (magR x.data.toList).length m by rw [HDl.out, show x.size - 0 = j by have := HP.out; omega]; exact HD.out).fin;have HV := hid (HOn.out ((m : Int)) (by rw [numR_ok (by rw [HXl.out]; omega) hfin.2, HNg.out, ← hfin.1]; rfl));have g4 : (m : Int) ≤ 1000000000 := by omega
           have hpi : ¬ (p : Int) < (x.size : Int) := by omega
           clear hfin hps;go_wp2_with (at_builtin; refine wpList_append_own _ rfl _ _ 27 rfl w.heap.size 3 i0 (.int .i64 0) 1 8 Tryz.underlying27 HI.out.1 HI.out.2.1 HI.out.2.2.1 HI.out.2.2.2 rfl (by decide) (.slice vo Z.length vc) _ _ rfl (HS.out.1.alloc _) ⟨wr.heap.size, 0, none⟩ 1 1 [.int .i64 ((m : Int))] rfl rfl ?y1 ?y2 ?y3 ?y4 ?y5 ?_);try case y1 => intro j u hj; match j, hj with | 0, hj => simp at hj; subst hj; simp [Addr.add] | j + 1, hj => simp at hj
           case y2 => first | rfl | (intro u hu; simp at hu; subst hu; rfl)
           case y3 => unfold maxLen; omega
           case y4 => omega
           case y5 => have := HS.out.size; simp; omega
           intro v' w7 hown7 hgrow7 _;have HS7 := hid (HS.out.push (x := (m : Int)) hown7 hgrow7);clear hown7 hgrow7;go_wp2_with fail;go_roundg (go - 1);case measure => have := HK.out; omega
           case rel => exact ⟨k + 1, _, _, by have := HK.out; omega, by go_num, rfl, HS7.out, HV.out, by rw [List.length_append, List.length_singleton]; omega⟩
      · have h0i : ¬ 0 < (x.size : Int) := by omega
        clear hneg;by_cases h9 : 9 < x.size
        · have h9i : 9 < (x.size : Int) := by omega
          have HX := hid (HNo.out (numR_long (by rw [HXl.out]; exact h9)));clear h9;go_wp2_with fail;go_ret2;exact NmPo.no HX.out HS.out.2
        have h9i : ¬ 9 < (x.size : Int) := by omega
        have HDl := hid (show (magR x.data.toList).length = x.size - 0 by rw [HM.out, List.length_drop, HXl.out]);go_wp2_with fail;obtain ⟨go, rfl⟩ : ∃ go, go = gk := ⟨_, rfl⟩;go_loopg [7, 9] (x.size - 0) (fun g nv jv wx => ∃ (j m : Nat), 0 + j + g = x.size ∧ nv = .int .i64 (m : Int) ∧ jv = .int .i64 (((0 + j : Nat) : Nat) : Int) ∧ DgR (magR x.data.toList) j m ∧ wr = wx);case atStart => exact ⟨0, 0, by omega, rfl, rfl, DgR.start _, rfl⟩
        case round =>
         obtain ⟨j, m, hk2, rfl, rfl, hD, rfl⟩ := hrel;have HK2 := hid hk2;have HD := hid hD;have hle2 : 0 + j ≤ x.size := by omega
         have hmb : m ≤ 1000000000 := pow10_9 hD.2.2 (by omega);obtain ⟨p, hp⟩ : ∃ p, p = 0 + j := ⟨_, rfl⟩;rw [← hp] at hle2 ⊢;have HP := hid hp;clear hk2 hD hp;by_cases hlt2 : p < x.size
         · have hjD : j < (magR x.data.toList).length := by rw [HDl.out]; have := HP.out; omega
           have HE := hid (show (magR x.data.toList)[j]'hjD = x[p] by
            have h5 := HP.out; subst h5;simp only [HM.out, List.getElem_drop];rfl)
           obtain ⟨m2, hm2⟩ : ∃ m2, m2 = 10 * m + (x[p].toNat - 48) := ⟨_, rfl⟩;have HM2 := hid hm2;have HOn2 := hid (show 48 ≤ (x[p].toNat : Int) → (x[p].toNat : Int) ≤ 57 → DgR (magR x.data.toList) (j + 1) m2 by rw [hm2, ← HE.out]; exact fun h1 h2 => HD.out.on hjD h1 h2);have HBd := hid (show (x[p].toNat : Int) < 48 ∨ 57 < (x[p].toNat : Int) → numR x.data.toList = none by rw [← HE.out]; exact fun h1 => numR_bad hjD (dig_not h1));have hc8 : (x[p].toNat : Int) < 256 := by have := x[p].toNat_lt; omega
           have hpi : (p : Int) < (x.size : Int) := by omega
           clear hjD HE hm2;by_cases h1 : (x[p].toNat : Int) < 48
           · have HV := hid (HNo.out (HBd.out (.inl h1)));go_wp2_with fail;go_ret2;exact NmPo.no HV.out HS.out.2
           have d1 : decide ((x[p].toNat : Int) < 48) = false := by simpa using h1
           by_cases h2 : 57 < (x[p].toNat : Int)
           · have HV := hid (HNo.out (HBd.out (.inr h2)));go_wp2_with fail;go_ret2;exact NmPo.no HV.out HS.out.2
           have d2 : decide (57 < (x[p].toNat : Int)) = false := by simpa using h2
           have g2 : 48 ≤ (x[p].toNat : Int) := by omega
           have g3 : (x[p].toNat : Int) ≤ 57 := by omega
           have g4 : (m : Int) ≤ 1000000000 := by omega
           clear h1 h2;go_wp2_with fail;go_roundg (gk - 1);case measure => have := HP.out; have := HK2.out; omega
           case rel => exact ⟨j + 1, m2, by have := HP.out; have := HK2.out; omega, by rw [HM2.out]; congr 1; omega, by congr 1; have := HP.out; omega, HOn2.out g2 g3, rfl⟩
         · have hps : p = x.size := by omega
           have hfin := (show DgR (magR x.data.toList) (magR x.data.toList).length m by rw [HDl.out, show x.size - 0 = j by have := HP.out; omega]; exact HD.out).fin;have HV := hid (HOn.out ((m : Int)) (by rw [numR_ok (by rw [HXl.out]; omega) hfin.2, HNg.out, ← hfin.1]; rfl));have g4 : (m : Int) ≤ 1000000000 := by omega
           have hpi : ¬ (p : Int) < (x.size : Int) := by omega
           clear hfin hps;go_wp2_with (at_builtin; refine wpList_append_own _ rfl _ _ 27 rfl w.heap.size 3 i0 (.int .i64 0) 1 8 Tryz.underlying27 HI.out.1 HI.out.2.1 HI.out.2.2.1 HI.out.2.2.2 rfl (by decide) (.slice vo Z.length vc) _ _ rfl (HS.out.1.alloc _) ⟨wr.heap.size, 0, none⟩ 1 1 [.int .i64 ((m : Int))] rfl rfl ?z1 ?z2 ?z3 ?z4 ?z5 ?_);try case z1 => intro j u hj; match j, hj with | 0, hj => simp at hj; subst hj; simp [Addr.add] | j + 1, hj => simp at hj
           case z2 => first | rfl | (intro u hu; simp at hu; subst hu; rfl)
           case z3 => unfold maxLen; omega
           case z4 => omega
           case z5 => have := HS.out.size; simp; omega
           intro v' w7 hown7 hgrow7 _;have HS7 := hid (HS.out.push (x := (m : Int)) hown7 hgrow7);clear hown7 hgrow7;go_wp2_with fail;go_roundg (go - 1);case measure => have := HK.out; omega
           case rel => exact ⟨k + 1, _, _, by have := HK.out; omega, by go_num, rfl, HS7.out, HV.out, by rw [List.length_append, List.length_singleton]; omega⟩
  · have HE := hid (show T.take k = T from List.take_of_length_le (by rw [HTl.out]; omega));rw [HE.out] at HZ;have hlti : ¬ ((k : Int) + 1 < (n : Int)) := by omega
    clear hlt;go_wp2_with fail;go_ret2;exact NmPo.yes HZ.out HS.out
end Go.Proofs.YtkhmngljpfibcaaGreatDoor
