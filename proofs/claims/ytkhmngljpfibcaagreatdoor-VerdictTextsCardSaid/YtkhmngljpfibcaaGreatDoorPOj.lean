/- Certificates out of their text, plain: sizes. The library's functions that the program's Parse of certificates uses: what a call returns. -/
import Derived.Test.YtkhmngljpfibcaaGreatDoorPUu
import Derived.Test.YtkhmngljpfibcaaGreatDoorPOc
import Derived.Test.YtkhmngljpfibcaaGreatDoorShelfL
import Derived.Shelf.Strconv.ErrVarAll
namespace Go.Proofs.YtkhmngljpfibcaaGreatDoor
section
open Go.RowKit

theorem atoi_i64 {s : List UInt8} {v : Int} (h : atoiO s = some v) : -9223372036854775808 ≤ v ∧ v ≤ 9223372036854775807 ∧ s ≠ [] := by
 unfold atoiO at h;split at h
 · rename_i v' hv;cases h;unfold Lib.atoiAll at hv;cases s with
   | nil => cases hv
   | cons c r =>
    simp only at hv;split at hv
    · cases hv
    · cases hv
    · rename_i u hu;split at hv
      · cases hv
      · rename_i h1;split at hv
        · cases hv
        · rename_i h2;injection hv with hv;refine ⟨?_, ?_, by simp⟩
          · split at hv <;> omega
          · split at hv <;> omega
 · cases h
theorem nums_size : ∀ (L : List (List UInt8)) {l : List Int}, numsP L = some l → l.length = L.length ∧ i64s l ∧ ∀ s ∈ L, s ≠ []
 | [], l, h => by cases h; exact ⟨rfl, fun x hx => by simp at hx, fun s hs => by simp at hs⟩
 | s :: L, l, h => by
  rw [numsP] at h;split at h
  · rename_i v M h1 h2;cases h;obtain ⟨g1, g2, g3⟩ := nums_size L h2;obtain ⟨a1, a2, a3⟩ := atoi_i64 h1;refine ⟨by simp [g1], fun x hx => ?_, fun t ht => ?_⟩
    · rcases List.mem_cons.1 hx with e | e
      · subst e; exact ⟨a1, a2⟩
      · exact g2 x e
    · rcases List.mem_cons.1 ht with e | e
      · subst e; exact a3
      · exact g3 t e
  · cases h
theorem sum_ge : ∀ L : List (List UInt8), (∀ s ∈ L, s ≠ []) → L.length ≤ (L.map List.length).sum
 | [], _ => by simp
 | s :: L, h => by
  have h1 := sum_ge L (fun t ht => h t (List.mem_cons_of_mem _ ht));have h2 : 0 < s.length := List.length_pos_iff.2 (h s (List.mem_cons_self ..));simp; omega
theorem line_nums {line : List UInt8} {l : List Int} (h : numsP (cutAt 32 line).tail = some l) : 2 * l.length ≤ line.length ∧ i64s l := by
 obtain ⟨g1, g2, g3⟩ := nums_size _ h;have h1 := cutAt_len 32 line;rw [← cutAt_cons 32 line] at h1;have h2 := sum_ge _ g3;simp only [List.map_cons, List.sum_cons, List.length_cons] at h1;rw [g1];exact ⟨by omega, g2⟩
structure CeS (m : Nat) (c : Ce) : Prop where
 cn : -9223372036854775808 ≤ c.cn ∧ c.cn ≤ 9223372036854775807
 r : i64s c.r ∧ c.r.length ≤ m
 p : i64s c.p ∧ c.p.length ≤ m
 k : ∀ l ∈ c.k, i64s l ∧ l.length ≤ m
 v : ∀ x ∈ c.v, mv64 x
 s : ∀ l ∈ c.s, i64s l ∧ l.length ≤ m
 x : ∀ l ∈ c.x, i64s l ∧ l.length ≤ m
theorem CeS.zero (m : Nat) : CeS m Ce.zero :=
 ⟨by decide, ⟨fun x hx => by simp [Ce.zero] at hx, by simp [Ce.zero]⟩, ⟨fun x hx => by simp [Ce.zero] at hx, by simp [Ce.zero]⟩, fun l hl => by simp [Ce.zero] at hl, fun l hl => by simp [Ce.zero] at hl, fun l hl => by simp [Ce.zero] at hl, fun l hl => by simp [Ce.zero] at hl⟩
theorem snoc_all {α : Type} {P : α → Prop} {L : List α} {a : α} (h : ∀ x ∈ L, P x) (ha : P a) : ∀ x ∈ L ++ [a], P x := fun x hx => by
 rcases List.mem_append.1 hx with e | e
 · exact h x e
 · simp at e; subst e; exact ha
theorem setP_size {m : Nat} {c d : Ce} {w : List UInt8} {l : List Int} (hc : CeS m c) (hl : i64s l ∧ l.length ≤ m) (h : setP c w l = some d) :
 CeS m d ∧ d.k.length ≤ c.k.length + 1 ∧ d.v.length ≤ c.v.length + 1 ∧ d.s.length ≤ c.s.length + 1 ∧ d.x.length ≤ c.x.length + 1 ∧ 3 ≤ w.length := by
 unfold setP at h;split at h
 · rename_i e; subst e;split at h
   · rename_i a;cases h;exact ⟨⟨hl.1 a (by simp), hc.r, hc.p, hc.k, hc.v, hc.s, hc.x⟩, by simp, by simp, by simp, by simp, by decide⟩
   · cases h
 split at h
 · rename_i e; subst e; cases h;exact ⟨⟨hc.cn, hl, hc.p, hc.k, hc.v, hc.s, hc.x⟩, by simp, by simp, by simp, by simp, by decide⟩
 split at h
 · rename_i e; subst e; cases h;exact ⟨⟨hc.cn, hc.r, hl, hc.k, hc.v, hc.s, hc.x⟩, by simp, by simp, by simp, by simp, by decide⟩
 split at h
 · rename_i e; subst e; cases h;exact ⟨⟨hc.cn, hc.r, hc.p, snoc_all hc.k hl, hc.v, hc.s, hc.x⟩, by simp, by simp, by simp, by simp, by decide⟩
 split at h
 · rename_i e; subst e;split at h
   · rename_i a b d;cases h;exact ⟨⟨hc.cn, hc.r, hc.p, hc.k, snoc_all hc.v (fun y hy => hl.1 y hy), hc.s, hc.x⟩, by simp, by simp, by simp, by simp, by decide⟩
   · cases h
 split at h
 · rename_i e; subst e; cases h;exact ⟨⟨hc.cn, hc.r, hc.p, hc.k, hc.v, snoc_all hc.s hl, hc.x⟩, by simp, by simp, by simp, by simp, by decide⟩
 split at h
 · rename_i e; subst e; cases h;exact ⟨⟨hc.cn, hc.r, hc.p, hc.k, hc.v, hc.s, snoc_all hc.x hl⟩, by simp, by simp, by simp, by simp, by decide⟩
 · cases h
theorem head_len (line : List UInt8) : ((cutAt 32 line).headD []).length ≤ line.length := by
 have h2 : (cutAt 32 line).headD [] ∈ cutAt 32 line := by rw [← cutAt_cons 32 line]; simp
 exact (cutAt_mem 32 line _ h2).2
theorem readP_size {m : Nat} {c d : Ce} {line : List UInt8} (hc : CeS m c) (hm : line.length ≤ 2 * m) (h : readP c line = some d) :
 CeS m d ∧ d.k.length ≤ c.k.length + 1 ∧ d.v.length ≤ c.v.length + 1 ∧ d.s.length ≤ c.s.length + 1 ∧ d.x.length ≤ c.x.length + 1 ∧ 3 ≤ line.length := by
 have hh := head_len line;unfold readP at h;split at h
 · rename_i e;cases h;rw [e] at hh;have : bClaim.length = 5 := rfl;exact ⟨⟨hc.cn, hc.r, hc.p, hc.k, hc.v, hc.s, hc.x⟩, by simp, by simp, by simp, by simp, by omega⟩
 · split at h
   · cases h
   · rename_i l hl;have h1 := line_nums hl;obtain ⟨g1, g2, g3, g4, g5, g6⟩ := setP_size hc ⟨h1.2, by omega⟩ h;exact ⟨g1, g2, g3, g4, g5, by omega⟩
theorem foldP_size {m : Nat} : ∀ (L : List (List UInt8)) {c d : Ce}, CeS m c → (∀ l ∈ L, l.length ≤ 2 * m) → foldP c L = some d →
 CeS m d ∧ d.k.length ≤ c.k.length + L.length ∧ d.v.length ≤ c.v.length + L.length ∧ d.s.length ≤ c.s.length + L.length ∧ d.x.length ≤ c.x.length + L.length ∧ 3 * L.length ≤ (L.map List.length).sum
 | [], c, d, hc, _, h => by cases h; exact ⟨hc, by simp, by simp, by simp, by simp, by simp⟩
 | s :: L, c, d, hc, hL, h => by
  rw [foldP] at h;split at h
  · cases h
  · rename_i e he;obtain ⟨g1, g2, g3, g4, g5, g6⟩ := readP_size hc (hL s (List.mem_cons_self ..)) he;obtain ⟨f1, f2, f3, f4, f5, f6⟩ := foldP_size L g1 (fun l hl => hL l (List.mem_cons_of_mem _ hl)) h;rw [List.length_cons, List.map_cons, List.sum_cons];exact ⟨f1, by omega, by omega, by omega, by omega, by omega⟩
theorem trim_len (s : List UInt8) : (trimN s).length ≤ s.length := by
 unfold trimN; split
 · rw [List.length_dropLast]; omega
 · exact Nat.le_refl _
theorem par_small {s : List UInt8} (hs : s.length ≤ 2000) {c : Ce} (h : foldP Ce.zero (cutAt 10 (trimN s)) = some c) : TxM c.cn c.r c.p c.k c.v c.s c.x := by
 have h1 := trim_len s;obtain ⟨f1, f2, f3, f4, f5, f6⟩ := foldP_size (m := 1000) _ (CeS.zero _) (fun l hl => by have := (cutAt_mem 10 _ l hl).2; omega) h;have h2 := cutAt_len 10 (trimN s);have z1 : Ce.zero.k.length = 0 := rfl;have z2 : Ce.zero.v.length = 0 := rfl;have z3 : Ce.zero.s.length = 0 := rfl;have z4 : Ce.zero.x.length = 0 := rfl;exact ⟨f1.cn, f1.r, f1.p, ⟨by omega, f1.k⟩, ⟨by omega, f1.v⟩, ⟨by omega, f1.s⟩, ⟨by omega, f1.x⟩⟩
end
section
open Go.RowKit

def PW (w : World) : Prop := Tb w ∧ (∃ m, w.cell? ⟨0, 0, none⟩ = some (.int .i64 m)) ∧ (∃ tp p, w.var? Tryz.prog "strconv.ErrSyntax" = some #[.iface tp p]) ∧ (∃ tp p, w.var? Tryz.prog "strconv.ErrRange" = some #[.iface tp p])
theorem gSyn : Tryz.prog.globalNamed "strconv.ErrSyntax" = some 1 := by kernel_rfl
theorem gRan : Tryz.prog.globalNamed "strconv.ErrRange" = some 2 := by kernel_rfl
theorem var_lt {w : World} {n : String} {g : Nat} {cs : Array Value} (hg : Tryz.prog.globalNamed n = some g) (h : w.var? Tryz.prog n = some cs) : g < w.heap.size := by
 unfold World.var? at h;rw [hg] at h;rcases Nat.lt_or_ge g w.heap.size with h2 | h2
 · exact h2
 · simp [Array.getElem?_eq_none h2] at h
theorem PW.below {w w' : World} (h : PW w) (hb : Below w.heap.size w w') : PW w' := by
 obtain ⟨h1, ⟨m, h2⟩, ⟨tp, p, h3⟩, ⟨tq, q, h4⟩⟩ := h;refine ⟨h1.below hb, ⟨m, ?_⟩, ⟨tp, p, var?_below hb gSyn (var_lt gSyn h3) h3⟩, ⟨tq, q, var?_below hb gRan (var_lt gRan h4) h4⟩⟩;rw [hb.cell (p := ⟨0, 0, none⟩) (World.block_lt_of_cell? w _ h2)]; exact h2
theorem PW.tb {w : World} (h : PW w) : Tb w := h.1
theorem atoi_good (s : ByteArray) (v : Int) (w : World) (hs : s.size ≤ 281474976710656) (h : Lib.atoiAll s.data.toList = .ok v) :
 Calls Tryz.prog 176 #[.string s] w fun e w' => e = .returned (.tuple #[.int .i64 v, .nilIface]) ∧ Below w.heap.size w w' := by
 refine (Tryz.strconv_Atoi_ok s (by omega) v h w).mono fun e w' ⟨h1, h2⟩ => ⟨h1, ?_⟩
 rcases h2 with rfl | ⟨t, rfl⟩
 · exact Below.refl _ _
 · exact Lib.bytesWorld_below w _ _
theorem atoi_bad (s : ByteArray) (w : World) (hs : s.size ≤ 281474976710656) (hp : PW w) (h : ∀ v, Lib.atoiAll s.data.toList ≠ .ok v) :
 Calls Tryz.prog 176 #[.string s] w fun e w' => ∃ (n : Int) (N : Nat), e = .returned (.tuple #[.int .i64 n, .iface 221 (.pointer (some ⟨N, 0, none⟩))]) ∧ Below w.heap.size w w' := by
 obtain ⟨_, _, ⟨tp, p, h3⟩, ⟨tq, q, h4⟩⟩ := hp;cases hA : Lib.atoiAll s.data.toList
 · rename_i v; exact absurd hA (h v)
 · exact (Any.strconv_Atoi_syntax_var Tryz.laysC172 s hs hA tp p w h3).mono fun e w' ⟨N, h1, _, _, h2⟩ => ⟨0, N, h1, h2⟩
 · exact (Any.strconv_Atoi_range_var Tryz.laysC172 s hs hA tq q w h4).mono fun e w' ⟨N, h1, _, _, h2⟩ => ⟨_, N, h1, h2⟩
theorem sr_cell {w : World} {B : Nat} {L : List ByteArray} (h : w.heap[B]? = some (.cells (L.map Value.string).toArray 9 (0, 0))) (k : Nat) (hk : k < L.length) : w.cell? ⟨B, k, none⟩ = some (.string L[k]) := by
 rw [Lib.cell_of_heap h]; simp [hk]
theorem split_any (s : ByteArray) (c : UInt8) (w : World) (hs : s.size < 4294967281) (hp : PW w) :
 Calls Tryz.prog 101 #[.string s, .string ⟨#[c]⟩] w fun e w' => ∃ L : List ByteArray, e = .returned (.slice (some ⟨w.heap.size, 0, none⟩) L.length L.length) ∧ w'.heap[w.heap.size]? = some (.cells (L.map Value.string).toArray 9 (0, 0)) ∧ L.map (fun s => s.data.toList) = cutAt c s.data.toList ∧ L.length ≤ s.size + 1 ∧ Below w.heap.size w w' := by
 obtain ⟨_, ⟨m, hm⟩, _⟩ := hp;refine (Tryz.strings_Split s ⟨#[c]⟩ m w hs hm (show 1 ≤ 1 from Nat.le_refl _)).mono fun e w' ⟨h1, h2⟩ => ?_
 have hl := Lib.splitB_all ⟨#[c]⟩ (show 1 ≤ 1 from Nat.le_refl _) 0 (Lib.countB s ⟨#[c]⟩) s rfl;have hd := Lib.splitB_data ⟨#[c]⟩ 0 (Lib.countB s ⟨#[c]⟩) s;have hc := Lib.countB_le ⟨#[c]⟩ (show 1 ≤ 1 from Nat.le_refl _) s.size s (Nat.le_refl _);generalize hL : Lib.splitB ⟨#[c]⟩ 0 (Lib.countB s ⟨#[c]⟩) s = L at *;rw [← hl] at h1;refine ⟨L, h1, ?_, ?_, by omega, by rw [h2]; exact below_alloc w _⟩
 · rw [h2]; exact heap_alloc_new w _
 · rw [hd];exact split_cut c s.data.toList
theorem trim_suf (s : List UInt8) : Lib.trimSuffix s [10] = trimN s := by
 unfold Lib.trimSuffix trimN Lib.hasSuffix;rcases List.eq_nil_or_concat s with rfl | ⟨l, a, rfl⟩
 · rfl
 · simp only [List.concat_eq_append];by_cases h : a = 10
   · subst h;have h1 : List.isSuffixOf [10] (l ++ [10]) = true := by rw [List.isSuffixOf_iff_suffix]; exact List.suffix_append _ _
     rw [if_pos h1, if_pos (by simp)];simp
   · have h1 : ¬ List.isSuffixOf [10] (l ++ [a]) = true := by
      rw [List.isSuffixOf_iff_suffix];rintro ⟨t, ht⟩;have := List.append_inj_right' ht rfl;simp at this;exact h this.symm
     rw [if_neg h1, if_neg (by simp; exact h)]
theorem trimS_any (s : ByteArray) (w : World) (hs : s.size ≤ 9223372036854775807) :
 Calls Tryz.prog 102 #[.string s, .string ⟨#[10]⟩] w fun e w' => e = .returned (.string ⟨(trimN s.data.toList).toArray⟩) ∧ w = w' := by
 refine (Tryz.strings_TrimSuffix s ⟨#[10]⟩ w hs).mono fun e w' ⟨h1, h2⟩ => ⟨?_, h2.symm⟩
 rw [h1, show (⟨#[10]⟩ : ByteArray).data.toList = [10] from rfl, trim_suf]
theorem trimP_any (s : ByteArray) (w : World) :
 Calls Tryz.prog 175 #[.string s, .string ⟨#[99, 108, 97, 105, 109, 32]⟩] w fun e w' => e = .returned (.string ⟨(trimC s.data.toList).toArray⟩) ∧ w = w' := by
 refine (Tryz.strings_TrimPrefix s ⟨#[99, 108, 97, 105, 109, 32]⟩ w).mono fun e w' ⟨h1, h2⟩ => ⟨?_, h2.symm⟩
 rw [h1]; rfl
theorem word_ext {x : ByteArray} {i : Nat} (h : (wordS i).data.toList = x.data.toList) : wordS i = x := ByteArray.ext (Array.toList_inj.mp h)
theorem idx_words (x : ByteArray) : Lib.idxOfS ((List.range 10).map wordS) x = wdI x.data.toList := by
 by_cases h : ∃ i, i < 10 ∧ wordS i = x
 · obtain ⟨i, hi, rfl⟩ := h
   match i, hi with
   | 0, _ => decide
   | 1, _ => decide
   | 2, _ => decide
   | 3, _ => decide
   | 4, _ => decide
   | 5, _ => decide
   | 6, _ => decide
   | 7, _ => decide
   | 8, _ => decide
   | 9, _ => decide
 · have e1 : wdI x.data.toList = -1 := by
    unfold wdI;rw [if_neg];intro hm;obtain ⟨i, hi, he⟩ := List.mem_map.1 hm;exact h ⟨i, List.mem_range.1 hi, word_ext he⟩
   rw [e1];refine Lib.idxFromS_miss x _ 0 (fun j hj he => ?_);have hj' : j < 10 := by simpa using hj
   exact h ⟨j, hj', by simpa [List.getD, hj'] using he⟩
theorem index_words (b : Nat) (o : Array Value) (x : ByteArray) (w : World) (hb : w.heap[b]? = some (.cells o 9 (0, 0))) (ho : ∀ i, i < 10 → o[i]? = some (.string (wordS i))) :
 Calls Tryz.prog 174 #[.slice (some ⟨b, 0, none⟩) 10 10, .string x] w fun e w' => e = .returned (.int .i64 (wdI x.data.toList)) ∧ w = w' := by
 refine (Tryz.slices_Index_string b 0 10 10 ((List.range 10).map wordS) x w (by simp) (by decide) (fun j hj => ?_)).mono fun e w' ⟨h1, h2⟩ => ⟨?_, h2.symm⟩
 · have hj' : j < 10 := by simpa using hj
   rw [Lib.cell_of_heap hb, Nat.zero_add, ho j hj'];simp [List.getD, hj']
 · rw [h1, ← idx_words, List.take_of_length_le (by simp)]
end
end Go.Proofs.YtkhmngljpfibcaaGreatDoor
