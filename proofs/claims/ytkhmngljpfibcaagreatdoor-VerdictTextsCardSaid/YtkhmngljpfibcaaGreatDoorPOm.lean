/- Parse of reference 29: what a call returns. -/
import Derived.Test.YtkhmngljpfibcaaGreatDoorPUu
import Derived.Test.YtkhmngljpfibcaaGreatDoorPOl
import Derived.Test.YtkhmngljpfibcaaGreatDoorPOg
namespace Go.Proofs.YtkhmngljpfibcaaGreatDoor
set_option maxRecDepth 100000
set_option maxHeartbeats 25600000
open Go.Lib (hid)
open Go.RowKit

theorem dval_lt (D : List UInt8) (h : D.all isDig = true) : ∀ m : Nat, m ≤ D.length → dval (D.take m) < 10 ^ m
 | 0, _ => by rw [List.take_zero]; decide
 | m + 1, hm => by
  have ih := dval_lt D h m (by omega);have hd := List.all_eq_true.1 h _ (List.getElem_mem (show m < D.length by omega));rw [List.take_succ_eq_append_getElem (by omega), dval_snoc, Nat.pow_succ];unfold isDig at hd;simp at hd;omega
theorem numR_size {s : List UInt8} {v : Int} (h : numR s = some v) : -9223372036854775808 ≤ v ∧ v ≤ 9223372036854775807 := by
 unfold numR at h;split at h
 · cases h
 · rename_i h9;split at h
   · rename_i hd;have h1 := dval_lt (magR s) hd (magR s).length (Nat.le_refl _);rw [List.take_length] at h1;have h2 : (magR s).length ≤ 9 := by
      unfold magR; split
      · rw [List.length_drop]; omega
      · omega
     have h3 := pow10_9 h1 h2;cases h;split <;> omega
   · cases h
theorem numsR_size : ∀ (L : List (List UInt8)) {l : List Int}, numsR L = some l → l.length = L.length ∧ i64s l
 | [], l, h => by cases h; exact ⟨rfl, fun x hx => by simp at hx⟩
 | s :: L, l, h => by
  rw [numsR] at h;cases hs : numR s with
  | none => rw [hs] at h; cases h
  | some v =>
   rw [hs] at h;cases hl : numsR L with
   | none => rw [hl] at h; cases h
   | some M =>
    rw [hl] at h;cases h;obtain ⟨h1, h2⟩ := numsR_size L hl;exact ⟨by simp [h1], fun x hx => by
     rcases List.mem_cons.1 hx with e | e
     · subst e; exact numR_size hs
     · exact h2 x e⟩
theorem lineR_nums {line : List UInt8} {l : List Int} (h : numsR (cutAt 32 line).tail = some l) : l.length ≤ line.length ∧ i64s l := by
 obtain ⟨h1, h2⟩ := numsR_size _ h;have h3 := cutAt_len 32 line;rw [List.length_tail] at h1;exact ⟨by omega, h2⟩
theorem setR_size {m : Nat} {c : Ce} {w : List UInt8} {l : List Int} (hc : CeS m c) (hl : i64s l ∧ l.length ≤ m) :
 CeS m (setR c w l) ∧ (setR c w l).k.length ≤ c.k.length + 1 ∧ (setR c w l).v.length ≤ c.v.length + 1 ∧ (setR c w l).s.length ≤ c.s.length + 1 ∧ (setR c w l).x.length ≤ c.x.length + 1 := by
 unfold setR;split
 · split
   · rename_i a;exact ⟨⟨hl.1 a (by simp), hc.r, hc.p, hc.k, hc.v, hc.s, hc.x⟩, by simp, by simp, by simp, by simp⟩
   · exact ⟨hc, by simp, by simp, by simp, by simp⟩
 split
 · exact ⟨⟨hc.cn, hl, hc.p, hc.k, hc.v, hc.s, hc.x⟩, by simp, by simp, by simp, by simp⟩
 split
 · exact ⟨⟨hc.cn, hc.r, hl, hc.k, hc.v, hc.s, hc.x⟩, by simp, by simp, by simp, by simp⟩
 split
 · exact ⟨⟨hc.cn, hc.r, hc.p, snoc_all hc.k hl, hc.v, hc.s, hc.x⟩, by simp, by simp, by simp, by simp⟩
 split
 · split
   · rename_i a b d;exact ⟨⟨hc.cn, hc.r, hc.p, hc.k, snoc_all hc.v (fun y hy => hl.1 y hy), hc.s, hc.x⟩, by simp, by simp, by simp, by simp⟩
   · exact ⟨hc, by simp, by simp, by simp, by simp⟩
 split
 · exact ⟨⟨hc.cn, hc.r, hc.p, hc.k, hc.v, snoc_all hc.s hl, hc.x⟩, by simp, by simp, by simp, by simp⟩
 split
 · exact ⟨⟨hc.cn, hc.r, hc.p, hc.k, hc.v, hc.s, snoc_all hc.x hl⟩, by simp, by simp, by simp, by simp⟩
 · exact ⟨hc, by simp, by simp, by simp, by simp⟩
theorem readR_size {m : Nat} {c d : Ce} {line : List UInt8} (hc : CeS m c) (hm : line.length ≤ m) (h : readR c line = some d) :
 CeS m d ∧ d.k.length ≤ c.k.length + 1 ∧ d.v.length ≤ c.v.length + 1 ∧ d.s.length ≤ c.s.length + 1 ∧ d.x.length ≤ c.x.length + 1 := by
 unfold readR at h;split at h
 · cases h;exact ⟨⟨hc.cn, hc.r, hc.p, hc.k, hc.v, hc.s, hc.x⟩, by simp, by simp, by simp, by simp⟩
 · split at h
   · cases h
   · rename_i l hl;have h1 := lineR_nums hl;cases h;exact setR_size hc ⟨h1.2, by omega⟩
theorem foldR_size {m : Nat} : ∀ (L : List (List UInt8)) {c d : Ce}, CeS m c → (∀ l ∈ L, l.length ≤ m) → foldR c L = some d →
 CeS m d ∧ d.k.length ≤ c.k.length + L.length ∧ d.v.length ≤ c.v.length + L.length ∧ d.s.length ≤ c.s.length + L.length ∧ d.x.length ≤ c.x.length + L.length
 | [], c, d, hc, _, h => by cases h; exact ⟨hc, by simp, by simp, by simp, by simp⟩
 | s :: L, c, d, hc, hL, h => by
  rw [foldR] at h;split at h
  · cases h
  · rename_i e he;obtain ⟨g1, g2, g3, g4, g5⟩ := readR_size hc (hL s (List.mem_cons_self ..)) he;obtain ⟨f1, f2, f3, f4, f5⟩ := foldR_size L g1 (fun l hl => hL l (List.mem_cons_of_mem _ hl)) h;rw [List.length_cons];exact ⟨f1, by omega, by omega, by omega, by omega⟩
theorem parR_small {s : List UInt8} (hs : s.length ≤ 2000) {c : Ce} (h : foldR Ce.zero (cutAt 10 s).dropLast = some c) : TxN c.cn c.r c.p c.k c.v c.s c.x := by
 obtain ⟨f1, f2, f3, f4, f5⟩ := foldR_size (m := 3000) _ (CeS.zero _) (fun l hl => by have := (cutAt_mem 10 _ l (by rw [List.dropLast_eq_take] at hl; exact List.mem_of_mem_take hl)).2; omega) h;have h2 := cutAt_len 10 s;rw [List.length_dropLast] at f2 f3 f4 f5;have z1 : Ce.zero.k.length = 0 := rfl;have z2 : Ce.zero.v.length = 0 := rfl;have z3 : Ce.zero.s.length = 0 := rfl;have z4 : Ce.zero.x.length = 0 := rfl;exact ⟨f1.cn, f1.r, f1.p, ⟨by omega, f1.k⟩, ⟨by omega, f1.v⟩, ⟨by omega, f1.s⟩, ⟨by omega, f1.x⟩⟩
def resR (s : List UInt8) : Ce × Int := if 262144 < s.length then (Ce.zero, 5) else match parR s with | none => (Ce.zero, 3) | some c => (c, 0)
theorem res_same (s : List UInt8) : resR s = resP s := by unfold resR resP; rw [par_same]; cases parR s <;> rfl
theorem resR_no {s : List UInt8} (h1 : ¬ 262144 < s.length) (h : parR s = none) : resR s = (Ce.zero, 3) := by unfold resR; rw [if_neg h1, h]
theorem resR_yes {s : List UInt8} {C : Ce} (h1 : ¬ 262144 < s.length) (h : parR s = some C) : resR s = (C, 0) := by unfold resR; rw [if_neg h1, h]
theorem parR_fold {s : List UInt8} (h : foldR Ce.zero (cutAt 10 s).dropLast = none) : parR s = none := by unfold parR; rw [h]
theorem parR_text {s : List UInt8} {C : Ce} (h : foldR Ce.zero (cutAt 10 s).dropLast = some C) : parR s = if textO C = some s then some C else none := by unfold parR; rw [h]
theorem foldR_snoc {L : List (List UInt8)} {l : List UInt8} {C D : Ce} (h : foldR Ce.zero L = some C) (hd : readR C l = some D) : foldR Ce.zero (L ++ [l]) = some D := by
 rw [foldR_app, h];simp only [Option.bind_some, foldR, hd]
theorem cutAt_end (c : UInt8) (l : List UInt8) : ∃ M, cutAt c l = M ++ [(cutAt c l).getLast (cutAt_ne c l)] := ⟨_, (List.dropLast_concat_getLast (cutAt_ne c l)).symm⟩
theorem foldR_bad {S p : List UInt8} {L : List (List UInt8)} {C : Ce} {k : Nat} (h : foldR Ce.zero L = some C) (hc : cutAt 10 S = L ++ [p] ++ cutAt 10 (S.drop k)) (hd : readR C p = none) : foldR Ce.zero (cutAt 10 S).dropLast = none := by
 obtain ⟨M, hM⟩ := cutAt_end 10 (S.drop k);rw [hc, hM, ← List.append_assoc, List.dropLast_concat, List.append_assoc, foldR_app, h];simp only [Option.bind_some, List.cons_append, List.nil_append, foldR, hd]
theorem FdR.all {c : UInt8} {S : List UInt8} {fr : Nat} {L : List (List UInt8)} (h : FdR c S S.length fr L) : (cutAt c S).dropLast = L := by
 obtain ⟨a, b, d⟩ := h.1 (Nat.le_refl _);have e : (S.drop fr).take (S.length - fr) = S.drop fr := List.take_of_length_le (by rw [List.length_drop]; omega);rw [e] at d;rw [b, cutAt_no c _ d, List.dropLast_concat]
theorem FdR.lines {c : UInt8} {S : List UInt8} {i fr : Nat} {L : List (List UInt8)} (h : FdR c S i fr L) (hi : i ≤ S.length) : ∀ l ∈ L, l.length ≤ S.length := fun l hl =>
 (cutAt_mem c S l (by rw [(h.1 hi).2.1]; exact List.mem_append_left _ hl)).2
theorem nmb_no {P : Program} {f : FuncId} {args : Array Value} {T : List (List UInt8)} {w : World} (h : Calls P f args w (NmPo T w)) (h0 : numsR T = none) : Calls P f args w fun e w' => e = .returned (.tuple #[.slice none 0 0, .bool false]) ∧ Below w.heap.size w w' :=
 h.mono fun e w' h1 => by unfold NmPo at h1; rw [h0] at h1; exact h1
theorem nmb_yes {P : Program} {f : FuncId} {args : Array Value} {T : List (List UInt8)} {w : World} {Z : List Int} (h : Calls P f args w (NmPo T w)) (h0 : numsR T = some Z) : Calls P f args w fun e w' => ∃ v, e = .returned (.tuple #[v, .bool true]) ∧ NS w w' v Z :=
 h.mono fun e w' h1 => by unfold NmPo at h1; rw [h0] at h1; exact h1
theorem setR_n0 (c : Ce) {Z : List Int} (h : Z.length ≠ 1) : setR c bNum Z = c := by
 match Z, h with
 | [], _ => rfl
 | [a], h => exact absurd rfl h
 | _ :: _ :: _, _ => rfl
theorem setR_m0 (c : Ce) {Z : List Int} (h : Z.length ≠ 3) : setR c bMove Z = c := by
 match Z, h with
 | [], _ => rfl
 | [_], _ => rfl
 | [_, _], _ => rfl
 | [_, _, _], h => exact absurd rfl h
 | _ :: _ :: _ :: _ :: _, _ => rfl
def clA (c : Int) (x : List UInt8) (k : Nat) : Int := (List.range k).foldl (fun a j => if (wordS j).data.toList = x then (j : Int) + 1 else a) c
theorem clA_on (c : Int) (x : List UInt8) (k : Nat) : clA c x (k + 1) = if (wordS k).data.toList = x then (k : Int) + 1 else clA c x k := by
 unfold clA; rw [List.range_succ, List.foldl_append]; rfl
theorem clA_all (c : Int) (x : List UInt8) : clA c x 10 = clR c x := by
 by_cases h : ∃ i, i < 10 ∧ (wordS i).data.toList = x
 · obtain ⟨i, hi, rfl⟩ := h
   match i, hi with
   | 0, _ => rfl
   | 1, _ => rfl
   | 2, _ => rfl
   | 3, _ => rfl
   | 4, _ => rfl
   | 5, _ => rfl
   | 6, _ => rfl
   | 7, _ => rfl
   | 8, _ => rfl
   | 9, _ => rfl
 · have h1 : clR c x = c := by
    unfold clR;rw [if_neg];intro hm;obtain ⟨i, hi, he⟩ := List.mem_map.1 hm;exact h ⟨i, List.mem_range.1 hi, he⟩
   have h2 : ∀ k, k ≤ 10 → clA c x k = c := by
    intro k
    induction k with
    | zero => intro _; rfl
    | succ k ih =>
     intro hk;rw [clA_on, if_neg (fun e => h ⟨k, by omega, e⟩), ih (by omega)]
   rw [h1, h2 10 (by decide)]
theorem readR_claim {C : Ce} {line hd x : List UInt8} (h : cutAt 32 line = [hd, x]) (hc : hd = bClaim) : readR C line = some { C with cl := clR C.cl x } := by
 unfold readR isClR; rw [h, hc]; rfl
theorem readR_nums {C : Ce} {line hd : List UInt8} {T : List (List UInt8)} (h : cutAt 32 line = hd :: T) (hc : hd ≠ bClaim ∨ T.length ≠ 1) : readR C line = match numsR T with | none => none | some l => some (setR C hd l) := by
 unfold readR;have e : isClR (cutAt 32 line) = false := by
  unfold isClR;rw [h];rcases hc with h1 | h1
  · rw [show decide ((hd :: T).headD [] = bClaim) = false from decide_eq_false h1]; rfl
  · rw [show decide ((hd :: T).length = 2) = false from decide_eq_false (by simp; exact h1)]; simp
 rw [e, h]; rfl
theorem SW.first {w0 w : World} {A : Option Addr} {n c : Nat} {x : ByteArray} {L : List ByteArray} (h : SW w0 w (.slice A n c) (x :: L)) : ∃ g, A = some ⟨g, 0, none⟩ ∧ g < w.heap.size ∧ (∃ cur, w.heap[g]? = some (.cells cur 9 (0, 0))) ∧ ∀ (k : Nat) (hk : k < (x :: L).length), w.cell? ⟨g, k, none⟩ = some (.string (x :: L)[k]) := by
 obtain ⟨A1, c1, e, h1⟩ := row_slice h.1;obtain ⟨g, hg, _, h2⟩ := h1 (by simp);injection e with e1 _ _;subst e1;subst hg;refine ⟨g, rfl, h2, own_kind h.1 rfl, fun k hk => ?_⟩;obtain ⟨A3, c3, e3, hr, _⟩ := h.rd;injection e3 with e4 _ _;subst e4;obtain ⟨ad, e5, _, h6⟩ := hr.at_ hk;cases e5;rw [show (⟨g, 0, none⟩ : Addr).add k = ⟨g, k, none⟩ by cases k with | zero => rfl | succ k => simp [Addr.add]] at h6;exact h6
theorem rparse29_any (s : ByteArray) (w : World) (hs : s.size ≤ 1000000) (hx : s.size ≤ 262144 → ∀ C, foldR Ce.zero (cutAt 10 s.data.toList).dropLast = some C → TxN C.cn C.r C.p C.k C.v C.s C.x) :
 Calls Tryz.prog 41 #[.string s] w (PsPo (resR s.data.toList) w) := by
 obtain ⟨i1, hj, hz0, hz1, hz2⟩ := info_parts rowInfo2;have HI1 := hid (And.intro hj (And.intro hz0 (And.intro hz1 hz2)));clear hj hz0 hz1 hz2;obtain ⟨i2, hj, hz0, hz1, hz2⟩ := info_parts mvInfo29;have HI2 := hid (And.intro hj (And.intro hz0 (And.intro hz1 hz2)));clear hj hz0 hz1 hz2;have HXt0 := hid hx;have HLn := hid (len_byte s);have hB0 := below_alloc w (.cells #[.int .i64 0, .int .i64 0, .slice none 0 0, .slice none 0 0, .slice none 0 0, .slice none 0 0, .slice none 0 0, .slice none 0 0] 31);clear hx;by_cases hbig : 262144 < s.size
 · have q0 : decide ((262144 : Int) < (s.size : Int)) = true := by simp; omega
   have HR := hid (show resR s.data.toList = (Ce.zero, 5) by unfold resR; rw [if_pos (by rw [HLn.out]; exact hbig)]);have HB0 := hid hB0;have HCb := hid (show CtB _ w.heap.size #[.int .i64 0, .int .i64 0, .slice none 0 0, .slice none 0 0, .slice none 0 0, .slice none 0 0, .slice none 0 0, .slice none 0 0] from heap_alloc_new w (.cells #[.int .i64 0, .int .i64 0, .slice none 0 0, .slice none 0 0, .slice none 0 0, .slice none 0 0, .slice none 0 0, .slice none 0 0] 31));clear hbig hB0;go_enter Tryz.func41, Tryz.ntmps41
   go_upto_region 1 with (fail)
   generalize w.alloc (.cells #[.int .i64 0, .int .i64 0, .slice none 0 0, .slice none 0 0, .slice none 0 0, .slice none 0 0, .slice none 0 0, .slice none 0 0] 31) = w1 at *;generalize hrb : w.heap.size = rb at *;obtain ⟨r0, r1, r2, r3, r4, r5, r6, r7⟩ := HCb.out.cells;have rf0 := HCb.out.soft;have HRe := hid (ct_set HCb.out (.int .i64 0) (.int .i64 0) (.slice none 0 0) (.slice none 0 0) (.slice none 0 0) (.slice none 0 0) (.slice none 0 0) (.slice none 0 0));have HGe := hid (ct_grown w1 rb (.int .i64 0) (.int .i64 0) (.slice none 0 0) (.slice none 0 0) (.slice none 0 0) (.slice none 0 0) (.slice none 0 0) (.slice none 0 0));have HBe := hid (HB0.out.grown HGe.out (by have := HB0.out.size; omega) (fun k hk => by cases hk; omega));go_wp2_with fail;generalize ((((((((w1.setCell ⟨rb, 0, none⟩ _).setCell ⟨rb, 1, none⟩ _).setCell ⟨rb, 2, none⟩ _).setCell ⟨rb, 3, none⟩ _).setCell ⟨rb, 4, none⟩ _).setCell ⟨rb, 5, none⟩ _).setCell ⟨rb, 6, none⟩ _).setCell ⟨rb, 7, none⟩ _) = we at *;obtain ⟨d0, d1, d2, d3, d4, d5, d6, d7⟩ := HRe.out.cells;exact bodyPost_ret (v := .tuple #[.agg #[.int .i64 0, .int .i64 0, .slice none 0 0, .slice none 0 0, .slice none 0 0, .slice none 0 0, .slice none 0 0, .slice none 0 0], .int .i64 5]) (by simp [results, Tryz.results41, go_sem, d0, d1, d2, d3, d4, d5, d6, d7]) rfl (PsPo.zero HR.out (by rw [hrb]; exact HBe.out))
 have q0 : decide ((262144 : Int) < (s.size : Int)) = false := by simp; omega
 have HSm := hid (show ¬ 262144 < s.data.toList.length by rw [HLn.out]; exact hbig);have hs2 : s.size ≤ 262144 := by omega
 have HXt := hid (HXt0.out hs2);clear HXt0;have HCe := hid (CeB.new2 w (.cells #[.int .i64 0, .int .i64 0, .slice none 0 0, .slice none 0 0, .slice none 0 0, .slice none 0 0, .slice none 0 0, .slice none 0 0] 31));have hcb := heap_alloc_new w (.cells #[.int .i64 0, .int .i64 0, .slice none 0 0, .slice none 0 0, .slice none 0 0, .slice none 0 0, .slice none 0 0, .slice none 0 0] 31);have HCb := hid (show CtB _ w.heap.size #[.int .i64 0, .int .i64 0, .slice none 0 0, .slice none 0 0, .slice none 0 0, .slice none 0 0, .slice none 0 0, .slice none 0 0] from CtB.below hcb (below_alloc (w.alloc (.cells #[.int .i64 0, .int .i64 0, .slice none 0 0, .slice none 0 0, .slice none 0 0, .slice none 0 0, .slice none 0 0, .slice none 0 0] 31)) (.cells #[.int .i64 0, .int .i64 0, .slice none 0 0, .slice none 0 0, .slice none 0 0, .slice none 0 0, .slice none 0 0, .slice none 0 0] 31)));clear hbig hB0 hcb;go_enter Tryz.func41, Tryz.ntmps41
 go_upto_region 4 with (fail)
 generalize ((w.alloc (.cells #[.int .i64 0, .int .i64 0, .slice none 0 0, .slice none 0 0, .slice none 0 0, .slice none 0 0, .slice none 0 0, .slice none 0 0] 31)).alloc (.cells #[.int .i64 0, .int .i64 0, .slice none 0 0, .slice none 0 0, .slice none 0 0, .slice none 0 0, .slice none 0 0, .slice none 0 0] 31)) = w1 at *;obtain ⟨b, hb⟩ : ∃ b, b = w.heap.size + 1 := ⟨_, rfl⟩;rw [← hb] at HCe ⊢;have HBn := hid (show b ≠ w.heap.size by omega);clear hb;go_wp2_with fail;go_loopg [5, 6] (s.size) (fun g fv iv wr => ∃ (i fr : Nat) (C : Ce) (vr vp vk vv vs vx : Value) (Ls : List (List UInt8)), i + g = s.size ∧ iv = .int .i64 (i : Int) ∧ fv = .int .i64 (fr : Int) ∧ CeB w wr b vr vp vk vv vs vx C ∧ FdR 10 s.data.toList i fr Ls ∧ foldR Ce.zero Ls = some C ∧ CtB wr w.heap.size #[.int .i64 0, .int .i64 0, .slice none 0 0, .slice none 0 0, .slice none 0 0, .slice none 0 0, .slice none 0 0, .slice none 0 0]);case atStart => exact ⟨0, 0, Ce.zero, _, _, _, _, _, _, [], by omega, rfl, rfl, HCe.out, FdR.start _ _, rfl, HCb.out⟩
 case round =>
  clear HCe HCb;obtain ⟨i, fr, C, vr, vp, vk, vv, vs, vx, Ls, hk, rfl, rfl, hC, hF, hFo, hR⟩ := hrel;have HK := hid hk;have HC0 := hid hC;have HF := hid hF;have HFo := hid hFo;have HR0 := hid hR;have hle : i ≤ s.size := by omega
  have hfr : fr ≤ i := hF.fr (by rw [HLn.out]; omega);have hszs := foldR_size (m := 262144) _ (CeS.zero _) (fun l hl => by have := hF.lines (by rw [HLn.out]; omega) l hl; rw [HLn.out] at this; omega) hFo;have hll := hF.2.2;have z1 : Ce.zero.k.length = 0 := rfl;have z2 : Ce.zero.v.length = 0 := rfl;have z3 : Ce.zero.s.length = 0 := rfl;have z4 : Ce.zero.x.length = 0 := rfl;have hk3 : C.k.length ≤ 300000 := by have := hszs.2.1; omega
  have hv3 : C.v.length ≤ 300000 := by have := hszs.2.2.1; omega
  have hs3 : C.s.length ≤ 300000 := by have := hszs.2.2.2.1; omega
  have hx3 : C.x.length ≤ 300000 := by have := hszs.2.2.2.2; omega
  clear hk hC hF hFo hR hszs hll z1 z2 z3 z4;by_cases hlt : i < s.size
  · have hii : (i : Int) < (s.size : Int) := by omega
    have hfi : (fr : Int) ≤ (i : Int) := by omega
    have hli : (i : Int) ≤ (s.size : Int) := by omega
    by_cases h10 : (s[i].toNat : Int) = 10
    · have q1 : ((s[i].toNat : Int) != 10) = false := by rw [h10]; rfl
      have hcn := HF.out.cut (by rw [HLn.out]; exact hlt) (show s.data.toList[i]'(by rw [len_byte]; exact hlt) = 10 by
       have : s.data.toList[i]'(by rw [len_byte]; exact hlt) = s[i] := rfl;rw [this];apply UInt8.toNat.inj;show s[i].toNat = 10;omega)
      rw [← Lib.extract_data] at hcn;have HN := hid hcn;have HCut := hid (show cutAt 10 s.data.toList = Ls ++ [(s.extract fr i).data.toList] ++ cutAt 10 (s.data.toList.drop (i + 1)) from (hcn.1 (by rw [HLn.out]; omega)).2.1);have hpl : (s.extract fr i).size ≤ 262144 := by rw [← len_byte, Lib.extract_data, List.length_take, List.length_drop, HLn.out]; omega
      have HFs := hid (rfields_any (s.extract fr i) wr (by omega));clear h10 hcn;go_wp2_with fail;((with_reducible refine HFs.out.mono ?_); rintro e w2 ⟨A, c, L0, rfl, hSW, hmap⟩)
      have HC2 := hid (HC0.out.below hSW.2);have HR2 := hid (HR0.out.below hSW.2);clear HC0 HR0 HFs;obtain ⟨L, hLe⟩ : ∃ L, L = L0 := ⟨_, rfl⟩;cases L0 with
      | nil => exact absurd hmap.symm (cutAt_ne 32 _)
      | cons hd T =>
       have HLe := hid hLe;obtain ⟨TT, hTT⟩ : ∃ TT, TT = T.map (fun s => s.data.toList) := ⟨_, rfl⟩;have hmap' : cutAt 32 (s.extract fr i).data.toList = hd.data.toList :: TT := by rw [hTT]; exact hmap.symm
       have HMp := hid hmap';have hcl2 := cutAt_len 32 (s.extract fr i).data.toList;have hLl : L.length ≤ 262145 := by
        rw [hLe];have h1 := congrArg List.length hmap;rw [List.length_map] at h1;rw [len_byte] at hcl2;omega
       have HLm := hid (show ∀ x ∈ L, x.size ≤ 262144 from fun x hx => by
        rw [hLe] at hx;have h1 := (cutAt_mem 32 (s.extract fr i).data.toList x.data.toList (by rw [← hmap]; exact List.mem_map.2 ⟨x, hx, rfl⟩)).2;rw [len_byte, len_byte] at h1; omega)
       obtain ⟨g, hA, hgl, hcur, hcells⟩ := hSW.first
       subst hA;have c0 : w2.cell? ⟨g, 0, none⟩ = some (.string hd) := hcells 0 (by simp);have HSr := hid (show SrIn w2 (some ⟨g, 0, none⟩) L from by
        obtain ⟨A3, c3, e3, hr, _⟩ := hSW.rd;injection e3 with e4 _ _;subst e4;rw [hLe]; exact hr)
       have HTl := hid (show (L.map (fun s => s.data.toList)).tail = TT by rw [hLe, hTT]; rfl);have HTn := hid (show TT.length ≤ 262145 by rw [hTT, List.length_map]; rw [hLe] at hLl; simp at hLl; omega);have HCs := hid (show ∀ (x : ByteArray), T = [x] → w2.cell? ⟨g, 1, none⟩ = some (.string x) from fun x hx => by subst hx; exact hcells 1 (by simp));have HSw := hid hSW;have HHd := hid (ByteArray.toList_eq hd);have HT1 := hid (show TT.length = T.length by rw [hTT]; exact List.length_map ..);have HTt := hid hTT;have hLT : (hd :: T).length = L.length := by rw [hLe]
       have hL1 : L.length = T.length + 1 := by rw [hLe]; rfl
       have hL0 : 0 < L.length := by omega
       rw [hLT];clear hmap hmap' hcl2 hcells hcur hSW hgl hTT;by_cases hcl : hd.data.toList = bClaim
       · have q2 : (hd.toList == [99, 108, 97, 105, 109]) = true := by rw [HHd.out, hcl]; rfl
         have HCl := hid hcl;clear hcl;by_cases hl2 : T.length = 1
         · obtain ⟨x, hx⟩ : ∃ x, T = [x] := by
            match T, hl2 with
            | [x], _ => exact ⟨x, rfl⟩
           have q3 : ((L.length : Int) == 2) = true := by simp; omega
           have HQ := hid (readR_claim (C := C) (x := x.data.toList) (by rw [HMp.out, HTt.out, hx]; rfl) HCl.out);have c1 := HCs.out x hx;have hL2 : L.length = 2 := by omega
           have HXt2 := hid (ByteArray.toList_eq x);clear hl2 hx hLe hLT HLe HLm HSr HTl HTn HCs HMp HT1 HTt hL1;clear hL0;rw [hL2] at q3 hLl ⊢;clear hL2;go_wp2_with fail;obtain ⟨go, rfl⟩ : ∃ go, go = gk := ⟨_, rfl⟩;go_loopg [8] (10) (fun g9 kv wx => ∃ k : Nat, k + g9 = 10 ∧ kv = .int .i64 ((k : Int) + 1) ∧ CeB w wx b vr vp vk vv vs vx { C with cl := clA C.cl x.data.toList k } ∧ CtB wx w.heap.size #[.int .i64 0, .int .i64 0, .slice none 0 0, .slice none 0 0, .slice none 0 0, .slice none 0 0, .slice none 0 0, .slice none 0 0] ∧ wx.cell? ⟨g, 1, none⟩ = some (.string x) ∧ (∃ cur, wx.heap[g]? = some (.cells cur 9 (0, 0))));case atStart => exact ⟨0, by omega, rfl, HC2.out, HR2.out, c1, own_kind HSw.out.1 rfl⟩
           case round =>
            obtain ⟨k, hk2, rfl, hc2, hr2, k1, hcur⟩ := hrel;have HK2 := hid hk2;have HC := hid hc2;have HR3 := hid hr2;have HCur := hid hcur;have hk10 : k ≤ 10 := by omega
            clear hk2 hc2 hr2 hcur c1 c0;by_cases hlt2 : k < 10
            · have HEx := hid (fun d os => rword29_any k hlt2 (Sort.grow (redrawn wr d) os));have HWt := hid (ByteArray.toList_eq (wordS k));have HOn := hid (clA_on C.cl x.data.toList k);have hki : (k : Int) + 1 ≤ 10 := by omega
              have hk0 : (0 : Int) ≤ (k : Int) := by omega
              go_wp2_with fail;have a1 := fun d os => cell_regrown k1 d os
              refine wp_region_quiet_below (by kernel_rfl) (by kernel_rfl) ?_;repeat (quiet_step (exact Calls.regrown_of (HEx.out _ _)))
              refine wpQuiet_nil ?_;intro _ hw';obtain ⟨⟨dq, osq⟩, hw''⟩ := hw';subst hw'';have hbq := below_regrown wr dq osq;have HC4 := hid (HC.out.below hbq);have HR4 := hid (HR3.out.below hbq);have k2 := cell_stays hbq k1;have HCur4 := hid (show ∃ cur, (Sort.grow (redrawn wr dq) osq).heap[g]? = some (.cells cur 9 (0, 0)) by
               obtain ⟨cur, hc⟩ := HCur.out;exact ⟨cur, by rw [hbq.block g (Array.getElem?_eq_some_iff.1 hc).1]; exact hc⟩)
              clear a1 hbq HC HR3 HCur k1;generalize Sort.grow (redrawn wr dq) osq = w4 at *;cases hq : ((wordS k).toList == x.toList) with
              | true =>
               rw [if_pos (show (wordS k).data.toList = x.data.toList by rw [HWt.out, HXt2.out] at hq; exact beq_iff_eq.1 hq)] at HOn;clear hq;have f0 := HC4.out.soft 0;obtain ⟨d0, d1, d2, d3, d4, d5, d6, d7⟩ := HC4.out.cells;have HSf := hid ((StrK.below (b := b) (Below.refl _ w4)).set (o := 0) HC4.out.blk (.int .i64 ((k : Int) + 1)));have HF5 := hid (HC4.out.setCl ((k : Int) + 1));have HR5 := hid (show CtB _ w.heap.size #[.int .i64 0, .int .i64 0, .slice none 0 0, .slice none 0 0, .slice none 0 0, .slice none 0 0, .slice none 0 0, .slice none 0 0] from HSf.out _ _ _ _ (.inr ⟨rfl, fun e => HBn.out e.symm⟩) HR4.out);have HCur5 := hid (show ∃ cur, (w4.setCell ⟨b, 0, none⟩ (.int .i64 ((k : Int) + 1))).heap[g]? = some (.cells cur 9 (0, 0)) by
                obtain ⟨cur, hc⟩ := HCur4.out;exact ⟨cur, HSf.out _ _ _ _ (.inl rfl) hc⟩)
               have k3 : (w4.setCell ⟨b, 0, none⟩ (.int .i64 ((k : Int) + 1))).cell? ⟨g, 1, none⟩ = some (.string x) := by
                obtain ⟨cur, hc⟩ := HCur4.out;have h5 := HSf.out _ _ _ _ (.inl rfl) hc;have k2' := k2;rw [Lib.cell_of_heap hc] at k2';rw [Lib.cell_of_heap h5]; exact k2'
               have HK3 := hid k3;clear k3;go_wp2_with fail;go_roundg (gk - 1);case measure => have := HK2.out; omega
               case rel => exact ⟨k + 1, by have := HK2.out; omega, by go_num, by rw [HOn.out]; exact HF5.out, HR5.out, HK3.out, HCur5.out⟩
              | false =>
               rw [if_neg (show ¬ (wordS k).data.toList = x.data.toList from fun e => by rw [HWt.out, HXt2.out, e] at hq; simp at hq)] at HOn;clear hq;go_wp2_with fail;go_roundg (gk - 1);case measure => have := HK2.out; omega
               case rel => exact ⟨k + 1, by have := HK2.out; omega, by go_num, by rw [HOn.out]; exact HC4.out, HR4.out, k2, HCur4.out⟩
            · obtain rfl : k = 10 := by omega
              rw [clA_all] at HC;clear hlt2 k1;go_wp2_with fail;go_roundg (go - 1);case measure => have := HK.out; omega
              case rel => exact ⟨i + 1, i + 1, _, _, _, _, _, _, _, _, by have := HK.out; omega, by go_num, by go_num, HC.out, HN.out, foldR_snoc HFo.out HQ.out, HR3.out⟩
         · have q3 : ((L.length : Int) == 2) = false := by simp; omega
           have HRe0 := hid (readR_nums (C := C) HMp.out (.inr (by rw [HT1.out]; exact hl2)));clear hl2 hLe hLT HCs HMp HT1 HTt hL1 HSw;have HNm := hid (rnumbers_any (some ⟨g, 0, none⟩) L.length c L w2 HSr.out rfl (by rw [HLe.out]; simp) (by omega) (fun x hx => by have := HLm.out x hx; omega));rw [HTl.out] at HNm;cases hnum : numsR TT with
           | none =>
            have HN2 := hid (nmb_no HNm.out hnum);have HQ := hid (resR_no HSm.out (parR_fold (foldR_bad HFo.out HCut.out (by rw [HRe0.out, hnum]))));clear hnum HNm;go_wp2_with fail;((with_reducible refine HN2.out.mono ?_); rintro e w3 ⟨rfl, hb3⟩)
            have HR3 := hid (HR2.out.below hb3);have HB3 := hid (HC2.out.below hb3).bel;clear hb3;obtain ⟨r0, r1, r2, r3, r4, r5, r6, r7⟩ := HR3.out.cells;have rf0 := HR3.out.soft;have HRe := hid (ct_set HR3.out (.int .i64 0) (.int .i64 0) (.slice none 0 0) (.slice none 0 0) (.slice none 0 0) (.slice none 0 0) (.slice none 0 0) (.slice none 0 0));have HGe := hid (ct_grown w3 w.heap.size (.int .i64 0) (.int .i64 0) (.slice none 0 0) (.slice none 0 0) (.slice none 0 0) (.slice none 0 0) (.slice none 0 0) (.slice none 0 0));have HBe := hid (HB3.out.grown HGe.out HB3.out.size (fun k hk => by cases hk; exact Nat.le_refl _));go_wp2_with fail;generalize (((((((w3.setCell ⟨w.heap.size, 0, none⟩ _).setCell ⟨w.heap.size, 1, none⟩ _).setCell ⟨w.heap.size, 2, none⟩ _).setCell ⟨w.heap.size, 3, none⟩ _).setCell ⟨w.heap.size, 4, none⟩ _).setCell ⟨w.heap.size, 5, none⟩ _).setCell ⟨w.heap.size, 6, none⟩ _).setCell ⟨w.heap.size, 7, none⟩ _ = we at *;clear r0 r1 r2 r3 r4 r5 r6 r7 rf0;obtain ⟨d0, d1, d2, d3, d4, d5, d6, d7⟩ := HRe.out.cells;exact bodyPost_ret (v := .tuple #[.agg #[.int .i64 0, .int .i64 0, .slice none 0 0, .slice none 0 0, .slice none 0 0, .slice none 0 0, .slice none 0 0, .slice none 0 0], .int .i64 3]) (by simp [results, Tryz.results41, go_sem, d0, d1, d2, d3, d4, d5, d6, d7]) rfl (PsPo.zero HQ.out HBe.out)
           | some Z =>
            have HN2 := hid (nmb_yes HNm.out hnum);have HRe := hid (show readR C (s.extract fr i).data.toList = some (setR C hd.data.toList Z) by rw [HRe0.out, hnum]);have hzl9 : Z.length ≤ 300000 := by have := (numsR_size _ hnum).1; have := HTn.out; omega
            clear hnum HNm HRe0;go_wp2_with fail;((with_reducible refine HN2.out.mono ?_); rintro e w3 ⟨zv, rfl, hz⟩)
            obtain ⟨vo, vc, rfl⟩ := hz.slice;have HR3 := hid (HR2.out.below hz.2);have HC := hid (HC2.out.below hz.2);have HX := hid (NS.up HC2.out.bel hz);have c1 := cell_stays hz.2 c0;clear hz HN2 HR2 HC2 HSr;have HQ := hid (show readR C (s.extract fr i).data.toList = some C by rw [HRe.out]; unfold setR; rw [HCl.out]; rfl);have q1 : (hd.toList == [110, 117, 109, 98, 101, 114]) = false := by rw [HHd.out, HCl.out]; decide
            have q2 : (hd.toList == [114, 117, 110]) = false := by rw [HHd.out, HCl.out]; decide
            have q3 : (hd.toList == [112, 117, 109, 112]) = false := by rw [HHd.out, HCl.out]; decide
            have q4 : (hd.toList == [109, 97, 114, 107]) = false := by rw [HHd.out, HCl.out]; decide
            have q5 : (hd.toList == [109, 111, 118, 101]) = false := by rw [HHd.out, HCl.out]; decide
            have q6 : (hd.toList == [115, 101, 116]) = false := by rw [HHd.out, HCl.out]; decide
            have q7 : (hd.toList == [114, 111, 119]) = false := by rw [HHd.out, HCl.out]; decide
            have HF := hid HC.out;have HRf := hid HR3.out;go_wp2_with fail;go_roundg (gk - 1);case measure => have := HK.out; omega
            case rel => exact ⟨i + 1, i + 1, _, _, _, _, _, _, _, _, by have := HK.out; omega, by go_num, by go_num, HF.out, HN.out, foldR_snoc HFo.out HQ.out, HRf.out⟩
       · have q2 : (hd.toList == [99, 108, 97, 105, 109]) = false := by rw [HHd.out]; exact beq_eq_false_iff_ne.2 hcl
         have HRe0 := hid (readR_nums (C := C) HMp.out (.inl hcl));clear hcl hLe hLT HCs HMp HT1 HTt hL1 HSw;have HNm := hid (rnumbers_any (some ⟨g, 0, none⟩) L.length c L w2 HSr.out rfl (by rw [HLe.out]; simp) (by omega) (fun x hx => by have := HLm.out x hx; omega));rw [HTl.out] at HNm;cases hnum : numsR TT with
         | none =>
          have HN2 := hid (nmb_no HNm.out hnum);have HQ := hid (resR_no HSm.out (parR_fold (foldR_bad HFo.out HCut.out (by rw [HRe0.out, hnum]))));clear hnum HNm;go_wp2_with fail;((with_reducible refine HN2.out.mono ?_); rintro e w3 ⟨rfl, hb3⟩)
          have HR3 := hid (HR2.out.below hb3);have HB3 := hid (HC2.out.below hb3).bel;clear hb3;obtain ⟨r0, r1, r2, r3, r4, r5, r6, r7⟩ := HR3.out.cells;have rf0 := HR3.out.soft;have HRe := hid (ct_set HR3.out (.int .i64 0) (.int .i64 0) (.slice none 0 0) (.slice none 0 0) (.slice none 0 0) (.slice none 0 0) (.slice none 0 0) (.slice none 0 0));have HGe := hid (ct_grown w3 w.heap.size (.int .i64 0) (.int .i64 0) (.slice none 0 0) (.slice none 0 0) (.slice none 0 0) (.slice none 0 0) (.slice none 0 0) (.slice none 0 0));have HBe := hid (HB3.out.grown HGe.out HB3.out.size (fun k hk => by cases hk; exact Nat.le_refl _));go_wp2_with fail;generalize (((((((w3.setCell ⟨w.heap.size, 0, none⟩ _).setCell ⟨w.heap.size, 1, none⟩ _).setCell ⟨w.heap.size, 2, none⟩ _).setCell ⟨w.heap.size, 3, none⟩ _).setCell ⟨w.heap.size, 4, none⟩ _).setCell ⟨w.heap.size, 5, none⟩ _).setCell ⟨w.heap.size, 6, none⟩ _).setCell ⟨w.heap.size, 7, none⟩ _ = we at *;clear r0 r1 r2 r3 r4 r5 r6 r7 rf0;obtain ⟨d0, d1, d2, d3, d4, d5, d6, d7⟩ := HRe.out.cells;exact bodyPost_ret (v := .tuple #[.agg #[.int .i64 0, .int .i64 0, .slice none 0 0, .slice none 0 0, .slice none 0 0, .slice none 0 0, .slice none 0 0, .slice none 0 0], .int .i64 3]) (by simp [results, Tryz.results41, go_sem, d0, d1, d2, d3, d4, d5, d6, d7]) rfl (PsPo.zero HQ.out HBe.out)
         | some Z =>
          have HN2 := hid (nmb_yes HNm.out hnum);have HRe := hid (show readR C (s.extract fr i).data.toList = some (setR C hd.data.toList Z) by rw [HRe0.out, hnum]);have hzl9 : Z.length ≤ 300000 := by have := (numsR_size _ hnum).1; have := HTn.out; omega
          clear hnum HNm HRe0;go_wp2_with fail;((with_reducible refine HN2.out.mono ?_); rintro e w3 ⟨zv, rfl, hz⟩)
          obtain ⟨vo, vc, rfl⟩ := hz.slice;have HR3 := hid (HR2.out.below hz.2);have HC := hid (HC2.out.below hz.2);have HX := hid (NS.up HC2.out.bel hz);have c1 := cell_stays hz.2 c0;clear hz HN2 HR2 HC2 HSr;by_cases hw0 : hd.data.toList = bNum
          · have q1 : (hd.toList == [110, 117, 109, 98, 101, 114]) = true := by rw [HHd.out, hw0]; rfl
            have HQ0 := hid (show setR C hd.data.toList Z = setR C bNum Z by rw [hw0]);clear hw0;by_cases hz1 : Z.length = 1
            · obtain ⟨za, rfl⟩ : ∃ a, Z = [a] := by
               match Z, hz1 with
               | [a], _ => exact ⟨a, rfl⟩
              have HQ := hid (show readR C (s.extract fr i).data.toList = some { C with cn := za } by rw [HRe.out, HQ0.out]; rfl);obtain ⟨gz, cz, ez, hg0, hg1⟩ := HX.out.row (by simp);injection ez with ez1 _ ez3;subst ez1 ez3;have z0 := (HX.out.cells 0 (by simp)).1;simp only [List.getElem_cons_zero] at z0;clear hz1 hzl9;have HSf := hid ((StrK.below (b := b) (Below.refl _ w3)).set (o := 1) HC.out.blk (.int .i64 za));have HRf := hid (show CtB _ w.heap.size #[.int .i64 0, .int .i64 0, .slice none 0 0, .slice none 0 0, .slice none 0 0, .slice none 0 0, .slice none 0 0, .slice none 0 0] from HSf.out _ _ _ _ (.inr ⟨rfl, fun e => HBn.out e.symm⟩) HR3.out);have f1 := HC.out.soft 1;obtain ⟨d0, d1, d2, d3, d4, d5, d6, d7⟩ := HC.out.cells;have HF := hid (HC.out.setCn za);go_wp2_with fail;go_roundg (gk - 1);case measure => have := HK.out; omega
              case rel => exact ⟨i + 1, i + 1, _, _, _, _, _, _, _, _, by have := HK.out; omega, by go_num, by go_num, HF.out, HN.out, foldR_snoc HFo.out HQ.out, HRf.out⟩
            · have hz2 : ((Z.length : Int) == 1) = false := by simp; omega
              have HQ := hid (show readR C (s.extract fr i).data.toList = some C by rw [HRe.out, HQ0.out, setR_n0 C hz1]);clear hz1;have HF := hid HC.out;have HRf := hid HR3.out;go_wp2_with fail;go_roundg (gk - 1);case measure => have := HK.out; omega
              case rel => exact ⟨i + 1, i + 1, _, _, _, _, _, _, _, _, by have := HK.out; omega, by go_num, by go_num, HF.out, HN.out, foldR_snoc HFo.out HQ.out, HRf.out⟩
          have q1 : (hd.toList == [110, 117, 109, 98, 101, 114]) = false := by rw [HHd.out]; exact beq_eq_false_iff_ne.2 hw0
          have HN0 := hid hw0;clear hw0;by_cases hw1 : hd.data.toList = bRun
          · have q2 : (hd.toList == [114, 117, 110]) = true := by rw [HHd.out, hw1]; rfl
            have HQ := hid (show readR C (s.extract fr i).data.toList = some { C with r := Z } by rw [HRe.out, hw1]; rfl);clear hw1;have HSf := hid ((StrK.below (b := b) (Below.refl _ w3)).set (o := 2) HC.out.blk (.slice vo Z.length vc));have HRf := hid (show CtB _ w.heap.size #[.int .i64 0, .int .i64 0, .slice none 0 0, .slice none 0 0, .slice none 0 0, .slice none 0 0, .slice none 0 0, .slice none 0 0] from HSf.out _ _ _ _ (.inr ⟨rfl, fun e => HBn.out e.symm⟩) HR3.out);have f2 := HC.out.soft 2;obtain ⟨d0, d1, d2, d3, d4, d5, d6, d7⟩ := HC.out.cells;have HF := hid (HC.out.setR HX.out);go_wp2_with fail;go_roundg (gk - 1);case measure => have := HK.out; omega
            case rel => exact ⟨i + 1, i + 1, _, _, _, _, _, _, _, _, by have := HK.out; omega, by go_num, by go_num, HF.out, HN.out, foldR_snoc HFo.out HQ.out, HRf.out⟩
          have q2 : (hd.toList == [114, 117, 110]) = false := by rw [HHd.out]; exact beq_eq_false_iff_ne.2 hw1
          have HN1 := hid hw1;clear hw1;by_cases hw2 : hd.data.toList = bPump
          · have q3 : (hd.toList == [112, 117, 109, 112]) = true := by rw [HHd.out, hw2]; rfl
            have HQ := hid (show readR C (s.extract fr i).data.toList = some { C with p := Z } by rw [HRe.out, hw2]; rfl);clear hw2;have HSf := hid ((StrK.below (b := b) (Below.refl _ w3)).set (o := 3) HC.out.blk (.slice vo Z.length vc));have HRf := hid (show CtB _ w.heap.size #[.int .i64 0, .int .i64 0, .slice none 0 0, .slice none 0 0, .slice none 0 0, .slice none 0 0, .slice none 0 0, .slice none 0 0] from HSf.out _ _ _ _ (.inr ⟨rfl, fun e => HBn.out e.symm⟩) HR3.out);have f3 := HC.out.soft 3;obtain ⟨d0, d1, d2, d3, d4, d5, d6, d7⟩ := HC.out.cells;have HF := hid (HC.out.setP HX.out);go_wp2_with fail;go_roundg (gk - 1);case measure => have := HK.out; omega
            case rel => exact ⟨i + 1, i + 1, _, _, _, _, _, _, _, _, by have := HK.out; omega, by go_num, by go_num, HF.out, HN.out, foldR_snoc HFo.out HQ.out, HRf.out⟩
          have q3 : (hd.toList == [112, 117, 109, 112]) = false := by rw [HHd.out]; exact beq_eq_false_iff_ne.2 hw2
          have HN2 := hid hw2;clear hw2;by_cases hw3 : hd.data.toList = bMark
          · have q4 : (hd.toList == [109, 97, 114, 107]) = true := by rw [HHd.out, hw3]; rfl
            have HQ := hid (show readR C (s.extract fr i).data.toList = some { C with k := C.k ++ [Z] } by rw [HRe.out, hw3]; rfl);clear hw3;obtain ⟨SL, o1, o2, o3, o4⟩ := HC.out.k;obtain ⟨Ax, cx, rfl, _⟩ := row_slice o1;have HOw := hid o1;have HSl := hid (And.intro o2 o3);clear o1 o2 o3 o4;obtain ⟨d0, d1, d2, d3, d4, d5, d6, d7⟩ := HC.out.cells;go_wp2_with (at_builtin; refine wpList_append_own_at _ rfl _ _ 28 rfl w.heap.size 27 i1 (.slice none 0 0) 1 24 Tryz.underlying28 HI1.out.1 HI1.out.2.1 HI1.out.2.2.1 HI1.out.2.2.2 rfl (by decide) (.slice Ax C.k.length cx) _ _ rfl (HOw.out.alloc _) ⟨w3.heap.size, 0, none⟩ 1 1 [.slice vo Z.length vc] rfl rfl ?k1 ?k2 ?k3 ?k4 ?k5 ?_);case k1 => intro j u hj; match j, hj with | 0, hj => simp at hj; subst hj; simp [Addr.add] | j + 1, hj => simp at hj
            case k2 => intro u hu; simp at hu; subst hu; rfl
            case k3 => unfold maxLen; omega
            case k4 => omega
            case k5 => have := HC.out.bel.size; simp; omega
            intro v' w7 hown hgrow _ hat;obtain ⟨Ay, cy, rfl, _⟩ := row_slice hown;have hbk := HC.out.blk2 HOw.out (by decide) hgrow;have f4 : w7.frozen? ⟨b, 4, none⟩ = false := by simp [World.frozen?, hbk]
            have g4 : w7.cell? ⟨b, 4, none⟩ = some (.slice Ax C.k.length cx) := by simp [World.cell?, hbk]
            have HSf := hid (((StrK.below (b := b) (Below.refl _ w3)).app HOw.out (by decide) (by decide) hgrow).set (o := 4) hbk (.slice Ay (C.k.length + 1) cy));have HRf := hid (show CtB _ w.heap.size #[.int .i64 0, .int .i64 0, .slice none 0 0, .slice none 0 0, .slice none 0 0, .slice none 0 0, .slice none 0 0, .slice none 0 0] from HSf.out _ _ _ _ (.inr ⟨rfl, fun e => HBn.out e.symm⟩) HR3.out);have HF := hid (HC.out.pushK HOw.out HSl.out.1 HSl.out.2 HX.out hown hgrow (by simpa using hat));clear hown hgrow hat hbk d0 d1 d2 d3 d4 d5 d6 d7;go_wp2_with fail;go_roundg (gk - 1);case measure => have := HK.out; omega
            case rel => exact ⟨i + 1, i + 1, _, _, _, _, _, _, _, _, by have := HK.out; omega, by go_num, by go_num, HF.out, HN.out, foldR_snoc HFo.out HQ.out, HRf.out⟩
          have q4 : (hd.toList == [109, 97, 114, 107]) = false := by rw [HHd.out]; exact beq_eq_false_iff_ne.2 hw3
          have HN3 := hid hw3;clear hw3;by_cases hw4 : hd.data.toList = bMove
          · have q5 : (hd.toList == [109, 111, 118, 101]) = true := by rw [HHd.out, hw4]; rfl
            have HQ0 := hid (show setR C hd.data.toList Z = setR C bMove Z by rw [hw4]);clear hw4;by_cases hz3 : Z.length = 3
            · obtain ⟨za, zb, zc, rfl⟩ : ∃ x y z, Z = [x, y, z] := by
               match Z, hz3 with
               | [x, y, z], _ => exact ⟨x, y, z, rfl⟩
              have HQ := hid (show readR C (s.extract fr i).data.toList = some { C with v := C.v ++ [⟨za, zb, zc⟩] } by rw [HRe.out, HQ0.out]; rfl);obtain ⟨gz, cz, ez, hg0, hg1⟩ := HX.out.row (by simp);injection ez with ez1 _ ez3;subst ez1 ez3;have hzc := HX.out.cells;have z0 := (hzc 0 (by simp)).1;have z1 := (hzc 1 (by simp)).1;have z2 := (hzc 2 (by simp)).1;obtain ⟨Ax, cx, e0, _⟩ := row_slice HC.out.v.1;subst e0;have HOw := hid HC.out.v.1;obtain ⟨d0, d1, d2, d3, d4, d5, d6, d7⟩ := HC.out.cells;simp only [List.getElem_cons_zero, List.getElem_cons_succ] at z0 z1 z2;clear hz3 hzc d0 d1 d2 d3 d4 d6 d7 hzl9;go_wp2_with fail;have hbd : Below w3.heap.size w3 w3.drew := (Below.refl _ _).drew;have HCd := hid (HC.out.below hbd);have HOd := hid (own_stays HOw.out hbd);have HXd := hid (HX.out.below hbd);have HRd := hid (HR3.out.below hbd);have s0 := cell_stays hbd d5;have s1 := cell_stays hbd z0;have s2 := cell_stays hbd z1;have s3 := cell_stays hbd z2;have hS0 := And.intro s0 (And.intro s1 (And.intro s2 s3));clear hbd s0 s1 s2 s3 d5 z0 z1 z2 HC HOw HX HR3 c1;refine re4 15 hS0 (fun hHeld => ?_);clear hS0;generalize w3.drew = wd at *;refine tkE 0 [1, 13, 15] ?_;(try go_simp);refine tkE 1 [13, 15] ?_;(try go_simp);refine tkE 2 [3, 4, 11, 12, 13, 15] ?_;(try go_simp);refine tkE 3 [4, 11, 12, 13, 15] ?_;(try go_simp);refine tkE 4 [11, 12, 13, 15] ?_;(try go_simp);refine tkE 5 [6, 7, 11, 12, 13, 15] ?_;(try go_simp);refine tkE 6 [7, 11, 12, 13, 15] ?_;(try go_simp);refine tkE 7 [11, 12, 13, 15] ?_;(try go_simp);refine tkE 8 [9, 10, 11, 12, 13, 15] ?_;(try go_simp);refine tkE 9 [10, 11, 12, 13, 15] ?_;(try go_simp);refine tkE 10 [11, 12, 13, 15] ?_;(try go_simp);refine tkE 11 [12, 13, 15] ?_;(try go_simp);have hS0 := hHeld;refine wpAnyE_one (i := 12) (by kernel_rfl) rfl (fun K hK => ?_);go_simp;skip;refine hK.out _ _ (fun _ => ⟨cell_stays (below_alloc _ _) hS0.1, cell_stays (below_alloc _ _) hS0.2.1, cell_stays (below_alloc _ _) hS0.2.2.1, cell_stays (below_alloc _ _) hS0.2.2.2⟩) (fun hH => ?_);have hHeld := hH (by decide);clear hH hK K;try go_simp
              refine wpAnyE_one (i := 13) (by kernel_rfl) rfl (fun K hK => ?_);refine step_append_own rfl _ _ 29 rfl w.heap.size 113 i2 (.agg #[.int .i64 0, .int .i64 0, .int .i64 0]) 3 24 Tryz.underlying29 HI2.out.1 HI2.out.2.1 HI2.out.2.2.1 HI2.out.2.2.2 rfl (by decide) (.slice Ax C.v.length cx) _ _ rfl (HOd.out.alloc _) ⟨wd.heap.size, 0, none⟩ 1 1 [.int .i64 za, .int .i64 zb, .int .i64 zc] rfl rfl ?m1 ?m2 ?m3 ?m4 ?m5 ?_;case m1 => exact news_blk (heap_alloc_new wd (.cells #[.int .i64 za, .int .i64 zb, .int .i64 zc] 113))
              case m2 => intro u hu; simp at hu; rcases hu with rfl | rfl | rfl <;> rfl
              case m3 => unfold maxLen; omega
              case m4 => omega
              case m5 => have := HCd.out.bel.size; simp; omega
              intro v5 w7 hown7 hgrow7;obtain ⟨A5, c5, rfl, _⟩ := row_slice hown7;have hal := below_alloc wd (.cells #[.int .i64 za, .int .i64 zb, .int .i64 zc] 113);have hbk := HCd.out.blk2 HOd.out (by decide) hgrow7;have hng : some b ≠ (Value.slice Ax C.v.length cx).ownBlock := row_block HOd.out HCd.out.blk (by decide);obtain ⟨cur, hcur⟩ := own_kind HXd.out.1 rfl;have hgz : some gz ≠ (Value.slice Ax C.v.length cx).ownBlock := row_block HOd.out hcur (by decide);have y0 := hgrow7.cell (cell_stays hal hS0.1) hng;have y1 := hgrow7.cell (cell_stays hal hS0.2.1) hgz;have y2 := hgrow7.cell (cell_stays hal hS0.2.2.1) hgz;have y3 := hgrow7.cell (cell_stays hal hS0.2.2.2) hgz;have xf : w7.frozen? ⟨b, 5, none⟩ = false := by simp [World.frozen?, hbk]
              have HSf := hid (((StrK.below (b := b) (Below.refl _ wd)).app HOd.out (by decide) (by decide) hgrow7).set (o := 5) hbk (.slice A5 (C.v.length + 1) c5));have HRf := hid (show CtB _ w.heap.size #[.int .i64 0, .int .i64 0, .slice none 0 0, .slice none 0 0, .slice none 0 0, .slice none 0 0, .slice none 0 0, .slice none 0 0] from HSf.out _ _ _ _ (.inr ⟨rfl, fun e => HBn.out e.symm⟩) HRd.out);have HF := hid (HCd.out.pushV (m := ⟨za, zb, zc⟩) hown7 hgrow7);refine hK.out _ _ (fun _ => ⟨y0, y1, y2, y3⟩) (fun hH => ?_);have hHeld := hH (by decide);clear hH hK K y0 y1 y2 y3 hcur hng hgz hal hown7 hgrow7 hbk;try go_simp
              refine tkE 14 [15] ?_;(try go_simp);refine wpAnyE_one (i := 15) (by kernel_rfl) rfl (fun K hK => ?_);go_simp;skip;refine hK.out _ _ (fun h => absurd rfl h) (fun _ => ?_);clear hK K;try go_simp
              refine wpAnyE_done (by kernel_rfl) ?_ _;clear hHeld hS0 xf HCd HOd HXd HRd;go_wp2_with fail;go_roundg (gk - 1);case measure => have := HK.out; omega
              case rel => exact ⟨i + 1, i + 1, _, _, _, _, _, _, _, _, by have := HK.out; omega, by go_num, by go_num, HF.out, HN.out, foldR_snoc HFo.out HQ.out, HRf.out⟩
            · have hz2 : ((Z.length : Int) == 3) = false := by simp; omega
              have HQ := hid (show readR C (s.extract fr i).data.toList = some C by rw [HRe.out, HQ0.out, setR_m0 C hz3]);clear hz3;have HF := hid HC.out;have HRf := hid HR3.out;go_wp2_with fail;go_roundg (gk - 1);case measure => have := HK.out; omega
              case rel => exact ⟨i + 1, i + 1, _, _, _, _, _, _, _, _, by have := HK.out; omega, by go_num, by go_num, HF.out, HN.out, foldR_snoc HFo.out HQ.out, HRf.out⟩
          have q5 : (hd.toList == [109, 111, 118, 101]) = false := by rw [HHd.out]; exact beq_eq_false_iff_ne.2 hw4
          have HN4 := hid hw4;clear hw4;by_cases hw5 : hd.data.toList = bSet
          · have q6 : (hd.toList == [115, 101, 116]) = true := by rw [HHd.out, hw5]; rfl
            have HQ := hid (show readR C (s.extract fr i).data.toList = some { C with s := C.s ++ [Z] } by rw [HRe.out, hw5]; rfl);clear hw5;obtain ⟨SL, o1, o2, o3, o4⟩ := HC.out.s;obtain ⟨Ax, cx, rfl, _⟩ := row_slice o1;have HOw := hid o1;have HSl := hid (And.intro o2 o3);clear o1 o2 o3 o4;obtain ⟨d0, d1, d2, d3, d4, d5, d6, d7⟩ := HC.out.cells;go_wp2_with (at_builtin; refine wpList_append_own_at _ rfl _ _ 28 rfl w.heap.size 27 i1 (.slice none 0 0) 1 24 Tryz.underlying28 HI1.out.1 HI1.out.2.1 HI1.out.2.2.1 HI1.out.2.2.2 rfl (by decide) (.slice Ax C.s.length cx) _ _ rfl (HOw.out.alloc _) ⟨w3.heap.size, 0, none⟩ 1 1 [.slice vo Z.length vc] rfl rfl ?s1 ?s2 ?s3 ?s4 ?s5 ?_);case s1 => intro j u hj; match j, hj with | 0, hj => simp at hj; subst hj; simp [Addr.add] | j + 1, hj => simp at hj
            case s2 => intro u hu; simp at hu; subst hu; rfl
            case s3 => unfold maxLen; omega
            case s4 => omega
            case s5 => have := HC.out.bel.size; simp; omega
            intro v' w7 hown hgrow _ hat;obtain ⟨Ay, cy, rfl, _⟩ := row_slice hown;have hbk := HC.out.blk2 HOw.out (by decide) hgrow;have f6 : w7.frozen? ⟨b, 6, none⟩ = false := by simp [World.frozen?, hbk]
            have g6 : w7.cell? ⟨b, 6, none⟩ = some (.slice Ax C.s.length cx) := by simp [World.cell?, hbk]
            have HSf := hid (((StrK.below (b := b) (Below.refl _ w3)).app HOw.out (by decide) (by decide) hgrow).set (o := 6) hbk (.slice Ay (C.s.length + 1) cy));have HRf := hid (show CtB _ w.heap.size #[.int .i64 0, .int .i64 0, .slice none 0 0, .slice none 0 0, .slice none 0 0, .slice none 0 0, .slice none 0 0, .slice none 0 0] from HSf.out _ _ _ _ (.inr ⟨rfl, fun e => HBn.out e.symm⟩) HR3.out);have HF := hid (HC.out.pushS HOw.out HSl.out.1 HSl.out.2 HX.out hown hgrow (by simpa using hat));clear hown hgrow hat hbk d0 d1 d2 d3 d4 d5 d6 d7;go_wp2_with fail;go_roundg (gk - 1);case measure => have := HK.out; omega
            case rel => exact ⟨i + 1, i + 1, _, _, _, _, _, _, _, _, by have := HK.out; omega, by go_num, by go_num, HF.out, HN.out, foldR_snoc HFo.out HQ.out, HRf.out⟩
          have q6 : (hd.toList == [115, 101, 116]) = false := by rw [HHd.out]; exact beq_eq_false_iff_ne.2 hw5
          have HN5 := hid hw5;clear hw5;by_cases hw6 : hd.data.toList = bRow
          · have q7 : (hd.toList == [114, 111, 119]) = true := by rw [HHd.out, hw6]; rfl
            have HQ := hid (show readR C (s.extract fr i).data.toList = some { C with x := C.x ++ [Z] } by rw [HRe.out, hw6]; rfl);clear hw6;obtain ⟨SL, o1, o2, o3, o4⟩ := HC.out.x;obtain ⟨Ax, cx, rfl, _⟩ := row_slice o1;have HOw := hid o1;have HSl := hid (And.intro o2 o3);clear o1 o2 o3 o4;obtain ⟨d0, d1, d2, d3, d4, d5, d6, d7⟩ := HC.out.cells;go_wp2_with (at_builtin; refine wpList_append_own_at _ rfl _ _ 28 rfl w.heap.size 27 i1 (.slice none 0 0) 1 24 Tryz.underlying28 HI1.out.1 HI1.out.2.1 HI1.out.2.2.1 HI1.out.2.2.2 rfl (by decide) (.slice Ax C.x.length cx) _ _ rfl (HOw.out.alloc _) ⟨w3.heap.size, 0, none⟩ 1 1 [.slice vo Z.length vc] rfl rfl ?x1 ?x2 ?x3 ?x4 ?x5 ?_);case x1 => intro j u hj; match j, hj with | 0, hj => simp at hj; subst hj; simp [Addr.add] | j + 1, hj => simp at hj
            case x2 => intro u hu; simp at hu; subst hu; rfl
            case x3 => unfold maxLen; omega
            case x4 => omega
            case x5 => have := HC.out.bel.size; simp; omega
            intro v' w7 hown hgrow _ hat;obtain ⟨Ay, cy, rfl, _⟩ := row_slice hown;have hbk := HC.out.blk2 HOw.out (by decide) hgrow;have f7 : w7.frozen? ⟨b, 7, none⟩ = false := by simp [World.frozen?, hbk]
            have g7 : w7.cell? ⟨b, 7, none⟩ = some (.slice Ax C.x.length cx) := by simp [World.cell?, hbk]
            have HSf := hid (((StrK.below (b := b) (Below.refl _ w3)).app HOw.out (by decide) (by decide) hgrow).set (o := 7) hbk (.slice Ay (C.x.length + 1) cy));have HRf := hid (show CtB _ w.heap.size #[.int .i64 0, .int .i64 0, .slice none 0 0, .slice none 0 0, .slice none 0 0, .slice none 0 0, .slice none 0 0, .slice none 0 0] from HSf.out _ _ _ _ (.inr ⟨rfl, fun e => HBn.out e.symm⟩) HR3.out);have HF := hid (HC.out.pushX HOw.out HSl.out.1 HSl.out.2 HX.out hown hgrow (by simpa using hat));clear hown hgrow hat hbk d0 d1 d2 d3 d4 d5 d6 d7;go_wp2_with fail;go_roundg (gk - 1);case measure => have := HK.out; omega
            case rel => exact ⟨i + 1, i + 1, _, _, _, _, _, _, _, _, by have := HK.out; omega, by go_num, by go_num, HF.out, HN.out, foldR_snoc HFo.out HQ.out, HRf.out⟩
          have q7 : (hd.toList == [114, 111, 119]) = false := by rw [HHd.out]; exact beq_eq_false_iff_ne.2 hw6
          have HN6 := hid hw6;clear hw6;have HQ := hid (show readR C (s.extract fr i).data.toList = some C by rw [HRe.out]; unfold setR; rw [if_neg HN0.out, if_neg HN1.out, if_neg HN2.out, if_neg HN3.out, if_neg HN4.out, if_neg HN5.out, if_neg HN6.out]);have HF := hid HC.out;have HRf := hid HR3.out;go_wp2_with fail;go_roundg (gk - 1);case measure => have := HK.out; omega
          case rel => exact ⟨i + 1, i + 1, _, _, _, _, _, _, _, _, by have := HK.out; omega, by go_num, by go_num, HF.out, HN.out, foldR_snoc HFo.out HQ.out, HRf.out⟩
    · have q1 : ((s[i].toNat : Int) != 10) = true := by simpa using h10
      have HN := hid (HF.out.on (by rw [HLn.out]; exact hlt) (show s.data.toList[i]'(by rw [len_byte]; exact hlt) ≠ 10 by
       intro e;apply h10;have : s.data.toList[i]'(by rw [len_byte]; exact hlt) = s[i] := rfl;rw [← this, e]; rfl))
      clear h10;go_wp2_with fail;go_roundg (gk - 1);case measure => have := HK.out; omega
      case rel => exact ⟨i + 1, fr, C, _, _, _, _, _, _, Ls, by have := HK.out; omega, by go_num, rfl, HC0.out, HN.out, HFo.out, HR0.out⟩
  · have hE : i = s.data.toList.length := by rw [HLn.out]; omega
    have HFd := hid (show foldR Ce.zero (cutAt 10 s.data.toList).dropLast = some C by
     have h1 := HF.out;rw [hE] at h1;rw [h1.all]; exact HFo.out)
    have HTm := hid (HXt.out C HFd.out);have HCn := hid (show CeN C from ⟨HTm.out.r.2, HTm.out.p.2, HTm.out.k.1, HTm.out.v.1, HTm.out.s.1, HTm.out.x.1⟩);have hii : ¬ (i : Int) < (s.size : Int) := by omega
    obtain ⟨Ar, cr, Ap, cp, Ak, ck, Av, cv, As, cs, Ax, cx, e1, e2, e3, e4, e5, e6, y1, y2, y3, y4, y5, y6⟩ := HC0.out.cfm;subst e1 e2 e3 e4 e5 e6;have HTx := hid (rtext29_any C.cl C.cn Ar C.r.length cr C.r Ap C.p.length cp C.p Ak C.k.length ck C.k Av C.v.length cv C.v As C.s.length cs C.s Ax C.x.length cx C.x wr (by
     obtain ⟨n1, n2, n3, n4, n5, n6⟩ := HCn.out;exact ⟨y1, rfl, by omega, y2, rfl, by omega, y3, rfl, by omega, y4, rfl, by omega, y5, rfl, by omega, y6, rfl, by omega⟩) HTm.out)
    obtain ⟨d0, d1, d2, d3, d4, d5, d6, d7⟩ := HC0.out.cells;clear y1 y2 y3 y4 y5 y6 hE hle HK HTm HXt HF hfr;go_wp2_with fail;((with_reducible refine HTx.out.mono ?_); rintro e w3 htx)
    have HTc := hid (tx_cases htx);clear htx HTx d0 d1 d2 d3 d4 d5 d6 d7;rcases HTc.out with ⟨t, hto, rfl, hb3⟩ | ⟨hto, kk, hk0, rfl, hb3⟩
    · have HR3 := hid (HR0.out.below hb3);have HC3 := hid (HC0.out.below hb3);have HTo := hid hto;clear hb3 hto HTc;by_cases he : t.data.toList = s.data.toList
      · have q1 : (t.toList == s.toList) = true := by rw [ByteArray.toList_eq, ByteArray.toList_eq, he]; simp
        have HQ := hid (resR_yes HSm.out (show parR s.data.toList = some C by rw [parR_text HFd.out, HTo.out, he, if_pos rfl]));clear he;obtain ⟨d0, d1, d2, d3, d4, d5, d6, d7⟩ := HC3.out.cells;obtain ⟨r0, r1, r2, r3, r4, r5, r6, r7⟩ := HR3.out.cells;have rf0 := HR3.out.soft;have HRe := hid (ct_set HR3.out (.int .i64 C.cl) (.int .i64 C.cn) (.slice Ar C.r.length cr) (.slice Ap C.p.length cp) (.slice Ak C.k.length ck) (.slice Av C.v.length cv) (.slice As C.s.length cs) (.slice Ax C.x.length cx));have HGe := hid (ct_grown w3 w.heap.size (.int .i64 C.cl) (.int .i64 C.cn) (.slice Ar C.r.length cr) (.slice Ap C.p.length cp) (.slice Ak C.k.length ck) (.slice Av C.v.length cv) (.slice As C.s.length cs) (.slice Ax C.x.length cx));have HCe := hid (HC3.out.res HR3.out (Nat.le_refl _) HBn.out HGe.out);go_wp2_with fail;generalize (((((((w3.setCell ⟨w.heap.size, 0, none⟩ _).setCell ⟨w.heap.size, 1, none⟩ _).setCell ⟨w.heap.size, 2, none⟩ _).setCell ⟨w.heap.size, 3, none⟩ _).setCell ⟨w.heap.size, 4, none⟩ _).setCell ⟨w.heap.size, 5, none⟩ _).setCell ⟨w.heap.size, 6, none⟩ _).setCell ⟨w.heap.size, 7, none⟩ _ = we at *;clear r0 r1 r2 r3 r4 r5 r6 r7 rf0;clear d0 d1 d2 d3 d4 d5 d6 d7;obtain ⟨d0, d1, d2, d3, d4, d5, d6, d7⟩ := HRe.out.cells;exact bodyPost_ret (v := .tuple #[.agg #[.int .i64 C.cl, .int .i64 C.cn, .slice Ar C.r.length cr, .slice Ap C.p.length cp, .slice Ak C.k.length ck, .slice Av C.v.length cv, .slice As C.s.length cs, .slice Ax C.x.length cx], .int .i64 0]) (by simp [results, Tryz.results41, go_sem, d0, d1, d2, d3, d4, d5, d6, d7]) rfl (by rw [HQ.out]; exact ⟨_, rfl, HCe.out.cfv HCn.out, HCe.out.bel⟩)
      · have q1 : (t.toList == s.toList) = false := by rw [ByteArray.toList_eq, ByteArray.toList_eq]; simpa using he
        have HQ := hid (resR_no HSm.out (show parR s.data.toList = none by rw [parR_text HFd.out, HTo.out, if_neg (fun e => he (Option.some.inj e))]));have HB3 := hid HC3.out.bel;clear he;obtain ⟨r0, r1, r2, r3, r4, r5, r6, r7⟩ := HR3.out.cells;have rf0 := HR3.out.soft;have HRe := hid (ct_set HR3.out (.int .i64 0) (.int .i64 0) (.slice none 0 0) (.slice none 0 0) (.slice none 0 0) (.slice none 0 0) (.slice none 0 0) (.slice none 0 0));have HGe := hid (ct_grown w3 w.heap.size (.int .i64 0) (.int .i64 0) (.slice none 0 0) (.slice none 0 0) (.slice none 0 0) (.slice none 0 0) (.slice none 0 0) (.slice none 0 0));have HBe := hid (HB3.out.grown HGe.out HB3.out.size (fun k hk => by cases hk; exact Nat.le_refl _));go_wp2_with fail;generalize (((((((w3.setCell ⟨w.heap.size, 0, none⟩ _).setCell ⟨w.heap.size, 1, none⟩ _).setCell ⟨w.heap.size, 2, none⟩ _).setCell ⟨w.heap.size, 3, none⟩ _).setCell ⟨w.heap.size, 4, none⟩ _).setCell ⟨w.heap.size, 5, none⟩ _).setCell ⟨w.heap.size, 6, none⟩ _).setCell ⟨w.heap.size, 7, none⟩ _ = we at *;clear r0 r1 r2 r3 r4 r5 r6 r7 rf0;obtain ⟨d0, d1, d2, d3, d4, d5, d6, d7⟩ := HRe.out.cells;exact bodyPost_ret (v := .tuple #[.agg #[.int .i64 0, .int .i64 0, .slice none 0 0, .slice none 0 0, .slice none 0 0, .slice none 0 0, .slice none 0 0, .slice none 0 0], .int .i64 3]) (by simp [results, Tryz.results41, go_sem, d0, d1, d2, d3, d4, d5, d6, d7]) rfl (PsPo.zero HQ.out HBe.out)
    · have HR3 := hid (HR0.out.below hb3);have HB3 := hid (HC0.out.below hb3).bel;have HQ := hid (resR_no HSm.out (show parR s.data.toList = none by rw [parR_text HFd.out, hto, if_neg (fun e => by cases e)]));have q1 : (kk != 0) = true := by simpa using hk0
      clear hb3 hto hk0 HTc;obtain ⟨r0, r1, r2, r3, r4, r5, r6, r7⟩ := HR3.out.cells;have rf0 := HR3.out.soft;have HRe := hid (ct_set HR3.out (.int .i64 0) (.int .i64 0) (.slice none 0 0) (.slice none 0 0) (.slice none 0 0) (.slice none 0 0) (.slice none 0 0) (.slice none 0 0));have HGe := hid (ct_grown w3 w.heap.size (.int .i64 0) (.int .i64 0) (.slice none 0 0) (.slice none 0 0) (.slice none 0 0) (.slice none 0 0) (.slice none 0 0) (.slice none 0 0));have HBe := hid (HB3.out.grown HGe.out HB3.out.size (fun k hk => by cases hk; exact Nat.le_refl _));go_wp2_with fail;generalize (((((((w3.setCell ⟨w.heap.size, 0, none⟩ _).setCell ⟨w.heap.size, 1, none⟩ _).setCell ⟨w.heap.size, 2, none⟩ _).setCell ⟨w.heap.size, 3, none⟩ _).setCell ⟨w.heap.size, 4, none⟩ _).setCell ⟨w.heap.size, 5, none⟩ _).setCell ⟨w.heap.size, 6, none⟩ _).setCell ⟨w.heap.size, 7, none⟩ _ = we at *;clear r0 r1 r2 r3 r4 r5 r6 r7 rf0;obtain ⟨d0, d1, d2, d3, d4, d5, d6, d7⟩ := HRe.out.cells;exact bodyPost_ret (v := .tuple #[.agg #[.int .i64 0, .int .i64 0, .slice none 0 0, .slice none 0 0, .slice none 0 0, .slice none 0 0, .slice none 0 0, .slice none 0 0], .int .i64 3]) (by simp [results, Tryz.results41, go_sem, d0, d1, d2, d3, d4, d5, d6, d7]) rfl (PsPo.zero HQ.out HBe.out)
end Go.Proofs.YtkhmngljpfibcaaGreatDoor
