/- Rows of truth values: a block of one's own; slices.Contains of false. verdict: sound: what a call returns, plain; the facts that its walk uses. -/
import Derived.Test.YtkhmngljpfibcaaGreatDoorPUu
import Derived.Test.YtkhmngljpfibcaaGreatDoorPQi
namespace Go.Proofs.YtkhmngljpfibcaaGreatDoor
set_option maxRecDepth 100000
set_option maxHeartbeats 1600000
open Go.Lib (hid)
section
open Go.RowKit

theorem boolInfo : (Tryz.prog.info? 4).map (fun i => (i.zero, i.size, i.bytes)) = some (some (.bool false), 1, 1) := by kernel_rfl
def BL (w : World) (g : Nat) (F : List Bool) : Prop := w.heap[g]? = some (.cells (F.map Value.bool).toArray 4 (0, 0))
theorem BL.lt {w : World} {g : Nat} {F : List Bool} (h : BL w g F) : g < w.heap.size := (Array.getElem?_eq_some_iff.1 h).1
theorem BL.below {w w' : World} {g : Nat} {F : List Bool} (h : BL w g F) (hb : Below w.heap.size w w') : BL w' g F := by
 unfold BL; rw [hb.block g h.lt]; exact h
theorem BL.cell {w : World} {g : Nat} {F : List Bool} (h : BL w g F) {i : Nat} (hi : i < F.length) : w.cell? ⟨g, i, none⟩ = some (.bool F[i]) := by
 have h' : w.heap[g]? = _ := h;simp [World.cell?, h', hi]
theorem BL.soft {w : World} {g : Nat} {F : List Bool} (h : BL w g F) (o : Nat) : w.frozen? ⟨g, o, none⟩ = false := by
 have h' : w.heap[g]? = _ := h;simp [World.frozen?, h']
theorem BL.set {w : World} {g : Nat} {F : List Bool} (h : BL w g F) (i : Nat) (b : Bool) : BL (w.setCell ⟨g, i, none⟩ (.bool b)) g (F.set i b) := by
 unfold BL;rw [heap_set2 h]
 congr 2
 rw [List.map_set, List.setIfInBounds_toArray]
theorem BL.other {w : World} {g b o : Nat} {F : List Bool} (h : BL w g F) (hb : b ≠ g) (u : Value) : BL (w.setCell ⟨b, o, none⟩ u) g F := by
 unfold BL;have hg : w.grownBy (w.setCell ⟨b, o, none⟩ u) (some b) := Lib.grownBy_setB (grown_refl w (some b)) o u;rw [hg.block g h.lt (fun e => hb (by cases e; rfl))];exact h
theorem mk_bools (n : Nat) (hn : n ≤ 1000000) (w : World) : (Instr.makeSlice 94 (.int .i64 (n : Int)) (.int .i64 (n : Int))).run Tryz.prog w = .ok (.slice (some ⟨w.heap.size, 0, none⟩) n n) (w.alloc (.cells (madeCells #[.bool false] n) 4)) := run_make_row' 94 4 (.bool false) 1 Tryz.underlying94 boolInfo rfl .i64 .i64 n (by omega) (by omega) w
theorem made_bools (n : Nat) : madeCells #[Value.bool false] n = ((List.replicate n false).map Value.bool).toArray := by
 apply Array.ext';rw [toList_madeCells_one, List.map_replicate]
theorem BL.made (w : World) (n : Nat) : BL (w.alloc (.cells (madeCells #[.bool false] n) 4)) w.heap.size (List.replicate n false) := by
 unfold BL;rw [← made_bools];exact heap_alloc_new w _
def noF (F : List Bool) : Bool := F.all fun b => b
theorem noF_step (F : List Bool) (k : Nat) (h : k < F.length) : noF (F.take (k + 1)) = (noF (F.take k) && F[k]) := by
 unfold noF;rw [List.take_succ_eq_append_getElem h, List.all_append]; simp
theorem bidx_any (g n c : Nat) (F : List Bool) (w : World) (h : BL w g F) (hn : F.length = n) (hb : n ≤ 9223372036854775806) :
 Calls Tryz.prog 203 #[.slice (some ⟨g, 0, none⟩) n c, .bool false] w fun e w' => (∃ r : Int, e = .returned (.int .i64 r) ∧ decide (0 ≤ r) = !(noF F)) ∧ Below w.heap.size w w' := by
 have HF := hid h;have HN := hid hn;clear h hn;go_enter Tryz.func203, Tryz.ntmps203;go_wp2_with fail;go_loopg [8] (n) (fun gh iv wr => ∃ k : Nat, k + gh = n ∧ iv = .int .i64 k ∧ noF (F.take k) = true ∧ Below w.heap.size w wr);case atStart => exact ⟨0, by omega, rfl, rfl, Below.refl _ _⟩
 case round =>
  obtain ⟨k, hk, rfl, hp, hB⟩ := hrel;have HK := hid hk;have HP := hid hp;have HBr := hid hB;clear hk hp hB;by_cases hlt : k < n
  · have hlt' : k < F.length := by rw [HN.out]; exact hlt
    have c0 := (HF.out.below HBr.out).cell hlt';have HS := hid (noF_step F k hlt');have HNo := hid (fun (hh : F[k] = false) => show noF F = false by unfold noF; rw [List.all_eq_false]; exact ⟨F[k], List.getElem_mem hlt', by simp [hh]⟩);generalize F[k] = b at *;clear hlt';cases b with
    | false =>
     have HV := hid (HNo.out rfl);clear HS HNo;go_wp2_with fail;go_ret;exact ⟨⟨_, rfl, by rw [HV.out]; simp⟩, HBr.out⟩
    | true =>
     have HV := hid (show noF (F.take (k + 1)) = true by rw [HS.out, HP.out]; rfl);clear HS HNo;go_wp2_with fail;go_roundg (gk - 1);case measure => have := HK.out; omega
     case rel => exact ⟨k + 1, by have := HK.out; omega, by go_num, HV.out, HBr.out⟩
  · have hE : noF F = true := by
     have := HP.out;rwa [List.take_of_length_le (by rw [HN.out]; omega)] at this
    have HE := hid hE;clear hE;go_wp2_with fail;go_ret;exact ⟨⟨_, rfl, by rw [HE.out]; decide⟩, HBr.out⟩
theorem bhas_any (g n c : Nat) (F : List Bool) (w : World) (h : BL w g F) (hn : F.length = n) (hb : n ≤ 9223372036854775806) :
 Calls Tryz.prog 159 #[.slice (some ⟨g, 0, none⟩) n c, .bool false] w fun e w' => e = .returned (.bool (!(noF F))) ∧ Below w.heap.size w w' := by
 have HI := hid (bidx_any g n c F w h hn hb);generalize noF F = q at *;clear h hn hb;go_enter Tryz.func159, Tryz.ntmps159;go_wp2_with fail;((with_reducible refine HI.out.mono ?_); rintro e w1 ⟨⟨r, rfl, hr⟩, hb1⟩)
 have HR := hid hr;have HB1 := hid hb1;clear hr hb1 HI;go_wp2_with fail;go_ret;exact ⟨ret_bool HR.out, HB1.out⟩
theorem mv_at {w : World} {A : Option Addr} {V : List Mv} (h : Rd mvC 3 w A V) {i : Nat} (hi : i < V.length) : ∃ ad, A = some ad ∧ (ad.add (i * 3)).block < w.heap.size ∧ w.cell? (ad.add (i * 3)) = some (.int .i64 V[i].f) ∧ w.cell? ⟨(ad.add (i * 3)).block, (ad.add (i * 3)).off + 1, none⟩ = some (.int .i64 V[i].t) ∧ w.cell? ⟨(ad.add (i * 3)).block, (ad.add (i * 3)).off + 1 + 1, none⟩ = some (.int .i64 V[i].s) := by
 obtain ⟨ad, e, h1, hc⟩ := h i hi;refine ⟨ad, e, h1, hc 0 _ (by omega) rfl, ?_, ?_⟩
 · have := hc 1 _ (by omega) rfl; rw [add_at _ _ _ (by omega)] at this; exact this
 · have := hc 2 _ (by omega) rfl; rw [add_at _ _ _ (by omega)] at this; exact this
end
section
open Go.RowKit

def mvT (N : Nt) (K : List (List Int)) (i : Nat) (f t s : Int) : Bool := decide (t = (i : Int) + 1) && (decide (0 ≤ f) && (decide (f ≤ (i : Int)) && (decide ((fireV N (K.getD f.toNat []) s).2 = 0) && decide ((fireV N (K.getD f.toNat []) s).1 = K.getD (i + 1) []))))
def mvOkAt (N : Nt) (K : List (List Int)) (V : List Mv) (i : Nat) : Bool := match V[i]? with
 | some x => mvT N K i x.f x.t x.s
 | none => true
theorem mvOk_get {N : Nt} {K : List (List Int)} {V : List Mv} {i : Nat} (h : i < V.length) : mvOkAt N K V i = mvT N K i V[i].f V[i].t V[i].s := by
 unfold mvOkAt; rw [List.getElem?_eq_getElem h]
def MvB (w : World) (b : Nat) (f t s : Int) : Prop := w.heap[b]? = some (.cells #[.int .i64 f, .int .i64 t, .int .i64 s] 113 (0, 0))
theorem MvB.below {w w' : World} {b : Nat} {f t s : Int} (h : MvB w b f t s) (hb : Below w.heap.size w w') : MvB w' b f t s := by
 unfold MvB; rw [hb.block b (Array.getElem?_eq_some_iff.1 h).1]; exact h
theorem MvB.cells {w : World} {b : Nat} {f t s : Int} (h : MvB w b f t s) : w.cell? ⟨b, 0, none⟩ = some (.int .i64 f) ∧ w.cell? ⟨b, 2, none⟩ = some (.int .i64 s) := by
 have h' : w.heap[b]? = _ := h;exact ⟨by simp [World.cell?, h'], by simp [World.cell?, h']⟩
def CA (w : World) (a : Addr) (v : Value) : Prop := w.cell? a = some v
theorem CA.below {w w' : World} {a : Addr} {v : Value} (h : CA w a v) (hb : Below w.heap.size w w') : CA w' a v := cell_stays hb h
theorem lin_at {w : World} {ak : Addr} {LL : List (List Int)} (h : LIn w (some ak) LL) {i : Nat} (hi : i < LL.length) : ∃ A n c, CA w (ak.add i) (.slice A n c) ∧ ZIn w A LL[i] ∧ LL[i].length = n ∧ n ≤ c ∧ c ≤ 9223372036854775807 := by
 obtain ⟨ad, e, _, u, k0, A, n, c, hu, h1, h2, h3, h4⟩ := h i hi;cases e;subst hu;exact ⟨A, n, c, k0, h1, h2, h3, h4⟩
def rowV (Z : List Int) (i : Nat) : Int := Z.getD i 0
def nearT (K : List (List Int)) (Z : List Int) (i : Nat) (t : Tr) : Bool := canT t (K.getD i []) && decide (rowV Z (lidx (isL (fireT t (K.getD i []))) K).toNat < rowV Z i)
def mrkOk (N : Nt) (K : List (List Int)) (Z : List Int) (i : Nat) : Bool := decide (lidx (isL (K.getD i [])) K = (i : Int)) && ((decide (K.getD i [] = finM N) == decide (rowV Z i = 0)) && (decide (K.getD i [] = finM N) || (N.tr.any (nearT K Z i) && !(decide (0 < (K.getD i []).getD N.snk.toNat 0)))))
def firedB (K : List (List Int)) (t : Tr) : Bool := K.any (canT t)
def sndB (N : Nt) (K : List (List Int)) (V : List Mv) (X : List (List Int)) : Bool :=
 !(K.isEmpty) && (mksX N.pl false K && (decide (K.getD 0 [] = iniM N) && (decide (V.length + 1 = K.length) && (decide (X.length = 1) && (decide ((X.headD []).length = K.length) && ((List.range V.length).all (mvOkAt N K V) && (closX N K && ((List.range K.length).all (mrkOk N K (X.headD [])) && N.tr.all (firedB K)))))))))
theorem any_step {α : Type} (f : α → Bool) {L : List α} {k : Nat} (h : k < L.length) : (L.take (k + 1)).any f = ((L.take k).any f || f L[k]) := by
 rw [List.take_succ_eq_append_getElem h, List.any_append]; simp
theorem lidx_lt (p : List Int → Bool) (K : List (List Int)) (h : 0 ≤ lidx p K) : ∃ i : Nat, lidx p K = (i : Int) ∧ i < K.length := by
 unfold lidx at h ⊢;split at h
 · omega
 · rename_i hne;rw [if_neg hne];exact ⟨_, rfl, by have := List.findIdx_le_length (p := p) (xs := K); omega⟩
theorem clos_mem {N : Nt} {K : List (List Int)} (h : closX N K = true) {s : List Int} (hs : s ∈ K) {t : Tr} (ht : t ∈ N.tr) (hc : canT t s = true) : bigM (fireT t s) = false ∧ 0 ≤ lidx (isL (fireT t s)) K := by
 unfold closX dblB at h;have h1 := List.all_eq_true.1 (List.all_eq_true.1 h s hs) t ht;unfold okX at h1;rw [hc] at h1;simp only [Bool.not_true, Bool.false_or, Bool.and_eq_true, Bool.not_eq_true'] at h1;refine ⟨h1.1, ?_⟩;have h2 := h1.2;unfold inB at h2;have := lidx_mem (fireT t s) K;unfold memB at this;have h3 : K.any (isL (fireT t s)) = true := by rw [List.any_eq_true]; exact ⟨fireT t s, by simpa using h2, by simp [isL]⟩
 rw [h3] at this;simpa using this
theorem tb_set {w : World} {b fb o : Nat} {lb : ByteArray} {Ai : Option Addr} {ni ci : Nat} {Ao : Option Addr} {no co : Nat} (h : TB w b lb Ai ni ci Ao no co) (hne : b ≠ fb) (u : Value) : TB (w.setCell ⟨fb, o, none⟩ u) b lb Ai ni ci Ao no co := by
 have hg : w.grownBy (w.setCell ⟨fb, o, none⟩ u) (some fb) := Lib.grownBy_setB (grown_refl w (some fb)) o u;have hn : some b ≠ some fb := fun e => hne (by cases e; rfl)
 exact ⟨hg.cell h.1 hn, hg.cell h.2.1 hn, hg.cell h.2.2 hn⟩
def trD : Tr := ⟨⟨#[]⟩, [], []⟩
def frd (N : Nt) (K : List (List Int)) (i j t : Nat) : Bool := (K.take i).any (canT (N.tr.getD t trD)) || (decide (t < j) && canT (N.tr.getD t trD) (K.getD i []))
def frL (N : Nt) (K : List (List Int)) (i j : Nat) : List Bool := (List.range N.tr.length).map (frd N K i j)
theorem frL_len (N : Nt) (K : List (List Int)) (i j : Nat) : (frL N K i j).length = N.tr.length := by simp [frL]
theorem frL_zero (N : Nt) (K : List (List Int)) : frL N K 0 0 = List.replicate N.tr.length false := by
 apply List.ext_getElem
 · simp [frL]
 · intro t h1 h2; simp [frL, frd]
theorem frL_no {N : Nt} {K : List (List Int)} {i j : Nat} (h : j < N.tr.length) (hc : canT N.tr[j] (K.getD i []) = false) : frL N K i (j + 1) = frL N K i j := by
 apply List.ext_getElem
 · simp [frL]
 · intro t h1 h2;simp only [frL, List.getElem_map, List.getElem_range, frd];by_cases ht : t = j
   · subst ht;have : N.tr.getD t trD = N.tr[t] := by simp [h]
     rw [this, hc]; simp
   · have : decide (t < j + 1) = decide (t < j) := by rw [Bool.eq_iff_iff]; simp; omega
     rw [this]
theorem frL_yes {N : Nt} {K : List (List Int)} {i j : Nat} (h : j < N.tr.length) (hc : canT N.tr[j] (K.getD i []) = true) : frL N K i (j + 1) = (frL N K i j).set j true := by
 apply List.ext_getElem
 · simp [frL]
 · intro t h1 h2;rw [List.getElem_set];simp only [frL, List.getElem_map, List.getElem_range, frd];by_cases ht : j = t
   · subst ht;have : N.tr.getD j trD = N.tr[j] := by simp [h]
     rw [this, hc]; simp
   · have : decide (t < j + 1) = decide (t < j) := by rw [Bool.eq_iff_iff]; simp; omega
     rw [this, if_neg ht]
theorem frL_next {N : Nt} {K : List (List Int)} {i : Nat} (h : i < K.length) : frL N K i N.tr.length = frL N K (i + 1) 0 := by
 apply List.ext_getElem
 · simp [frL]
 · intro t h1 h2;have ht : t < N.tr.length := by rw [frL_len] at h1; exact h1
   simp only [frL, List.getElem_map, List.getElem_range, frd];rw [any_step _ h];have : K.getD i [] = K[i] := by simp [h]
   rw [this, decide_eq_true ht]; simp
theorem frL_end (N : Nt) (K : List (List Int)) : noF (frL N K K.length 0) = N.tr.all (firedB K) := by
 rw [Bool.eq_iff_iff];unfold noF;rw [List.all_eq_true, List.all_eq_true];constructor
 · intro h t ht;obtain ⟨k, hk, rfl⟩ := List.getElem_of_mem ht;have := h (frd N K K.length 0 k) (List.mem_map.2 ⟨k, List.mem_range.2 hk, rfl⟩);have e : N.tr.getD k trD = N.tr[k] := by simp [hk]
   unfold frd at this;rw [e] at this;simpa [firedB] using this
 · intro h b hb;obtain ⟨k, hk, rfl⟩ := List.mem_map.1 hb;have hk' := List.mem_range.1 hk;have e : N.tr.getD k trD = N.tr[k] := by simp [hk']
   unfold frd;rw [e];have := h _ (List.getElem_mem hk');simpa [firedB] using this
theorem mrk_get {N : Nt} {K : List (List Int)} {Z : List Int} {i : Nat} (h : i < K.length) (hz : i < Z.length) : mrkOk N K Z i = (decide (lidx (isL K[i]) K = (i : Int)) && ((decide (K[i] = finM N) == decide (Z[i] = 0)) && (decide (K[i] = finM N) || (N.tr.any (nearT K Z i) && !(decide (0 < K[i].getD N.snk.toNat 0)))))) := by
 have e1 : K.getD i [] = K[i] := by simp [h]
 have e2 : rowV Z i = Z[i] := by simp [rowV, hz]
 unfold mrkOk;rw [e1, e2]
theorem near_get {K : List (List Int)} {Z : List Int} {i x : Nat} (h : i < K.length) (hz : i < Z.length) {t : Tr} (hx : lidx (isL (fireT t K[i])) K = (x : Int)) (hx2 : x < Z.length) (hc : canT t K[i] = true) : nearT K Z i t = decide (Z[x] < Z[i]) := by
 have e1 : K.getD i [] = K[i] := by simp [h]
 have e2 : rowV Z i = Z[i] := by simp [rowV, hz]
 have e3 : rowV Z x = Z[x] := by simp [rowV, hx2]
 unfold nearT;rw [e1, hc, hx, Int.toNat_natCast, e2, e3]; rfl
theorem near_no {K : List (List Int)} {Z : List Int} {i : Nat} (h : i < K.length) {t : Tr} (hc : canT t K[i] = false) : nearT K Z i t = false := by
 have e1 : K.getD i [] = K[i] := by simp [h]
 unfold nearT;rw [e1, hc]; rfl
end
end Go.Proofs.YtkhmngljpfibcaaGreatDoor
