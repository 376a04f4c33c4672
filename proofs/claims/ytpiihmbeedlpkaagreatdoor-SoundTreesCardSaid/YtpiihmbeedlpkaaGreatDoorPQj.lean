/- verdict.closed, verdict.covers: what a call returns. verdict: transition, run, pumps, dead: what a call returns. verdict: pumps, dead: what a call returns. verdict: unsound, relaxed: what a call returns. verdict: relaxed: what a call returns. Rows of truth values: a block of one's own; slices.Contains of false. verdict: notRelaxed: what a call returns. -/
import Derived.Test.YtpiihmbeedlpkaaGreatDoorPUu
import Derived.Test.YtpiihmbeedlpkaaGreatDoorPAj
import Derived.Test.YtpiihmbeedlpkaaGreatDoorPHf
namespace Go.Proofs.YtpiihmbeedlpkaaGreatDoor
set_option maxRecDepth 100000
set_option maxHeartbeats 1600000
open Go.Lib (hid)
section
open Go.RowKit

def okX (q : List Int → Bool) (s : List Int) (t : Tr) : Bool := !(canT t s) || (!(bigM (fireT t s)) && q (fireT t s))
def dblB (q : List Int → Bool) (N : Nt) (LL : List (List Int)) : Bool := LL.all fun s => N.tr.all (okX q s)
def inB (LL : List (List Int)) (z : List Int) : Bool := decide (z ∈ LL)
def belowB (LL : List (List Int)) (x : List Int) : Bool := LL.any (atMost x)
def closX (N : Nt) (LL : List (List Int)) : Bool := dblB (inB LL) N LL
def covX (N : Nt) (LL : List (List Int)) : Bool := belowB LL (oneM N.pl.toNat N.src.toNat) && dblB (belowB LL) N LL
theorem badX_badK (k : Int) : badX false k = badK k := by unfold badX badK; simp
theorem mkX_mk {N : Nt} (h : ntB N = true) (s : List Int) : mkX N.pl false s = mkB N s := by
 unfold mkX mkB;rw [h];have : (badX false) = badK := by funext k; exact badX_badK k
 rw [this]; rfl
theorem all_false {α : Type} {f : α → Bool} {L : List α} {x : α} (hx : x ∈ L) (h : f x = false) : L.all f = false := by
 rw [List.all_eq_false]; exact ⟨x, hx, by simp [h]⟩
theorem all_step {α : Type} (f : α → Bool) {L : List α} {k : Nat} (h : k < L.length) : (L.take (k + 1)).all f = ((L.take k).all f && f L[k]) := by
 rw [List.take_succ_eq_append_getElem h, List.all_append]; simp
theorem nt_src {N : Nt} (h : ntB N = true) : 0 ≤ N.src ∧ N.src < N.pl ∧ 0 ≤ N.snk ∧ N.snk < N.pl := by
 unfold ntB at h;rw [Bool.and_eq_true, Bool.and_eq_true] at h;exact of_decide_eq_true h.2.2
theorem trOk_mem {N : Nt} {m : Nat} (h : netOk N m) {t : Tr} (ht : t ∈ N.tr) : trOk t m := by
 obtain ⟨k, hk, rfl⟩ := List.getElem_of_mem ht;exact h k _ (List.getElem?_eq_getElem hk)
end
section
open Go.RowKit

def trnB (N : Nt) (k : Int) : Bool := decide (0 ≤ k) && decide (k < (N.tr.length : Int))
def iniM (N : Nt) : List Int := oneM N.pl.toNat N.src.toNat
def finM (N : Nt) : List Int := oneM N.pl.toNat N.snk.toNat
theorem one_mk {N : Nt} (hv : ntB N = true) (p : Nat) : mkB N (oneM N.pl.toNat p) = true := by
 have h1 := nt_small hv;unfold mkB;rw [hv, oneM_len, decide_eq_true (show ((N.pl.toNat : Nat) : Int) = N.pl by omega)];have : (oneM N.pl.toNat p).any badK = false := by
  rw [List.any_eq_false];intro x hx;have : x = 0 ∨ x = 1 := by
   unfold oneM at hx;rcases List.mem_or_eq_of_mem_set hx with h | h
   · exact .inl (List.eq_of_mem_replicate h)
   · exact .inr h
  unfold badK;rcases this with rfl | rfl <;> decide
 rw [this]; rfl
def runI (N : Nt) (l : List Int) : List Int × Nat × Int := run21 N (iniM N) l
end
section
open Go.RowKit

def vpumB (N : Nt) (l p : List Int) : Bool := decide ((runI N l).2.2 = 0) && (!(p.isEmpty) && (decide ((run21 N (runI N l).1 p).2.2 = 0) && (atMost (runI N l).1 (run21 N (runI N l).1 p).1 && !(decide ((runI N l).1 = (run21 N (runI N l).1 p).1)))))
def enAt (N : Nt) (k : Int) (s : List Int) : Bool := match N.tr[k.toNat]? with | some t => canT t s | none => false
def deadB (N : Nt) (k : Int) (K : List (List Int)) : Bool := trnB N k && (mksX N.pl true K && (covX N K && !(K.any (enAt N k))))
end
section
open Go.RowKit

def memB (K : List (List Int)) (m : List Int) : Bool := K.any (isL m)
def unsB (N : Nt) (cn : Int) (R P : List Int) (K : List (List Int)) : Bool :=
 if P.isEmpty then (if R.isEmpty && deadB N cn K then true else if (runI N R).2.2 = 0 then (if K.isEmpty then decide (0 < (runI N R).1.getD N.snk.toNat 0) && !(decide ((runI N R).1 = finM N)) else mksX N.pl false K && (memB K (runI N R).1 && (!(memB K (finM N)) && closX N K))) else false) else vpumB N R P
end
section
open Go.RowKit

def hasB (Z : List Int) (x : Int) : Bool := Z.any fun y => decide (y = x)
theorem contains_any (A : Option Addr) (n c : Nat) (Z : List Int) (x : Int) (w : World) (h : ZIn w A Z) (hn : Z.length = n) (hb : n ≤ 9223372036854775807) :
 Calls Tryz.prog 60 #[.slice A n c, .int .i64 x] w fun e w' => e = .returned (.bool (hasB Z x)) ∧ Below w.heap.size w w' := by
 rcases Nat.eq_zero_or_pos n with h0 | h0
 · subst h0;have e1 : Z = [] := List.eq_nil_of_length_eq_zero hn;subst e1;exact (Tryz.slices_Contains_int_empty A c x w).mono fun e w' ⟨h1, h2⟩ => ⟨h1, by subst h2; exact Below.refl _ _⟩
 · obtain ⟨b, off, rfl, _, hc⟩ := zin_plain h (by omega);refine (Tryz.slices_Contains_int b off n c Z x w (by omega) hb hc).mono fun e w' ⟨h1, h2⟩ => ⟨?_, by subst h2; exact Below.refl _ _⟩
   rw [h1, List.take_of_length_le (by omega)];refine ret_bool ?_;unfold hasB;rw [List.contains_eq_any_beq]
   congr 1
   funext y
   rw [Bool.eq_iff_iff]; simp; omega
def relAt (N : Nt) (S : List (List Int)) (t : Nat) : Bool := match S[t]? with
 | some l => decide ((runI N l).2.2 = 0) && (decide ((runI N l).1 = finM N) && hasB l (t : Int))
 | none => true
def relB (N : Nt) (S : List (List Int)) : Bool := decide (S.length = N.tr.length) && (List.range S.length).all (relAt N S)
theorem relAt_get {N : Nt} {S : List (List Int)} {t : Nat} (h : t < S.length) : relAt N S t = (decide ((runI N S[t]).2.2 = 0) && (decide ((runI N S[t]).1 = finM N) && hasB S[t] (t : Int))) := by
 unfold relAt; rw [List.getElem?_eq_getElem h]
end
section
open Go.RowKit

theorem boolInfo : (Tryz.prog.info? 4).map (fun i => (i.zero, i.size, i.bytes)) = some (some (.bool false), 1, 1) := by kernel_rfl
def BL (w : World) (g : Nat) (F : List Bool) : Prop := w.heap[g]? = some (.cells (F.map Value.bool).toArray 4 (0, 0))
theorem BL.lt {w : World} {g : Nat} {F : List Bool} (h : BL w g F) : g < w.heap.size := (Array.getElem?_eq_some_iff.1 h).1
theorem BL.below {w w' : World} {g : Nat} {F : List Bool} (h : BL w g F) (hb : Below w.heap.size w w') : BL w' g F := by
 unfold BL; rw [hb.block g h.lt]; exact h
theorem BL.cell {w : World} {g : Nat} {F : List Bool} (h : BL w g F) {i : Nat} (hi : i < F.length) : w.cell? ⟨g, i, none⟩ = some (.bool F[i]) := by
 have h' : w.heap[g]? = _ := h;simp [World.cell?, h', hi]
theorem BL.soft {w : World} {g : Nat} {F : List Bool} (h : BL w g F) (o : Nat) : w.frozen? ⟨g, o, none⟩ = false := by
 have h' : w.heap[g]? = _ := h;simp [World.frozen?, h']
theorem BL.set {w : World} {g : Nat} {F : List Bool} (h : BL w g F) (i : Nat) (b : Bool) : BL (w.setCell ⟨g, i, none⟩ (.bool b)) g (F.set i b) := by
 unfold BL;rw [heap_set2 h]
 congr 2
 rw [List.map_set, List.setIfInBounds_toArray]
theorem BL.other {w : World} {g b o : Nat} {F : List Bool} (h : BL w g F) (hb : b ≠ g) (u : Value) : BL (w.setCell ⟨b, o, none⟩ u) g F := by
 unfold BL;have hg : w.grownBy (w.setCell ⟨b, o, none⟩ u) (some b) := Lib.grownBy_setB (grown_refl w (some b)) o u;rw [hg.block g h.lt (fun e => hb (by cases e; rfl))];exact h
theorem mk_bools (n : Nat) (hn : n ≤ 1000000) (w : World) : (Instr.makeSlice 97 (.int .i64 (n : Int)) (.int .i64 (n : Int))).run Tryz.prog w = .ok (.slice (some ⟨w.heap.size, 0, none⟩) n n) (w.alloc (.cells (madeCells #[.bool false] n) 4)) := run_make_row' 97 4 (.bool false) 1 Tryz.underlying97 boolInfo rfl .i64 .i64 n (by omega) (by omega) w
theorem made_bools (n : Nat) : madeCells #[Value.bool false] n = ((List.replicate n false).map Value.bool).toArray := by
 apply Array.ext';rw [toList_madeCells_one, List.map_replicate]
def noF (F : List Bool) : Bool := F.all fun b => b
theorem noF_step (F : List Bool) (k : Nat) (h : k < F.length) : noF (F.take (k + 1)) = (noF (F.take k) && F[k]) := by
 unfold noF;rw [List.take_succ_eq_append_getElem h, List.all_append]; simp
theorem bidx_any (g n c : Nat) (F : List Bool) (w : World) (h : BL w g F) (hn : F.length = n) (hb : n ≤ 9223372036854775806) :
 Calls Tryz.prog 82 #[.slice (some ⟨g, 0, none⟩) n c, .bool false] w fun e w' => (∃ r : Int, e = .returned (.int .i64 r) ∧ decide (0 ≤ r) = !(noF F)) ∧ Below w.heap.size w w' := by
 have HF := hid h;have HN := hid hn;clear h hn;go_enter Tryz.func82, Tryz.ntmps82;go_wp2_with fail;go_loopg [8] (n) (fun gh iv wr => ∃ k : Nat, k + gh = n ∧ iv = .int .i64 k ∧ noF (F.take k) = true ∧ Below w.heap.size w wr);case atStart => exact ⟨0, by omega, rfl, rfl, Below.refl _ _⟩
 case round =>
  obtain ⟨k, hk, rfl, hp, hB⟩ := hrel;have HK := hid hk;have HP := hid hp;have HBr := hid hB;clear hk hp hB;by_cases hlt : k < n
  · have hlt' : k < F.length := by rw [HN.out]; exact hlt
    have c0 := (HF.out.below HBr.out).cell hlt';have HS := hid (noF_step F k hlt');have HNo := hid (fun (hh : F[k] = false) => show noF F = false by unfold noF; rw [List.all_eq_false]; exact ⟨F[k], List.getElem_mem hlt', by simp [hh]⟩);generalize F[k] = b at *;clear hlt';cases b with
    | false =>
     have HV := hid (HNo.out rfl);clear HS HNo;go_wp2_with fail;go_ret;exact ⟨⟨_, rfl, by rw [HV.out]; simp⟩, HBr.out⟩
    | true =>
     have HV := hid (show noF (F.take (k + 1)) = true by rw [HS.out, HP.out]; rfl);clear HS HNo;go_wp2_with fail;go_roundg (gk - 1);case measure => have := HK.out; omega
     case rel => exact ⟨k + 1, by have := HK.out; omega, by go_num, HV.out, HBr.out⟩
  · have hE : noF F = true := by
     have := HP.out;rwa [List.take_of_length_le (by rw [HN.out]; omega)] at this
    have HE := hid hE;clear hE;go_wp2_with fail;go_ret;exact ⟨⟨_, rfl, by rw [HE.out]; decide⟩, HBr.out⟩
theorem bhas_any (g n c : Nat) (F : List Bool) (w : World) (h : BL w g F) (hn : F.length = n) (hb : n ≤ 9223372036854775806) :
 Calls Tryz.prog 66 #[.slice (some ⟨g, 0, none⟩) n c, .bool false] w fun e w' => e = .returned (.bool (!(noF F))) ∧ Below w.heap.size w w' := by
 have HI := hid (bidx_any g n c F w h hn hb);generalize noF F = q at *;clear h hn hb;go_enter Tryz.func66, Tryz.ntmps66;go_wp2_with fail;((with_reducible refine HI.out.mono ?_); rintro e w1 ⟨⟨r, rfl, hr⟩, hb1⟩)
 have HR := hid hr;have HB1 := hid hb1;clear hr hb1 HI;go_wp2_with fail;go_ret;exact ⟨ret_bool HR.out, HB1.out⟩
end
section
open Go.RowKit

def nrbB (L : List (List Int)) (T : Tr) (m : List Int) : Bool := canT T m && !(memB L (fireT T m))
def lostL (K : List (List Int)) (I : List Int) : List (List Int) := I.map fun i => K.getD i.toNat []
def okIx (K : List (List Int)) (i : Int) : Bool := decide (0 ≤ i) && decide (i < (K.length : Int))
def trAtN (N : Nt) (k : Int) : Tr := N.tr.getD k.toNat ⟨⟨#[]⟩, [], []⟩
def nrlB (N : Nt) (cn : Int) (K S : List (List Int)) : Bool :=
 trnB N cn && (mksX N.pl false K && (memB K (iniM N) && (decide (S.length = 1) && (closX N K && ((S.headD []).all (okIx K) && (closX N (lostL K (S.headD [])) && (!(memB (lostL K (S.headD [])) (finM N)) && !(K.any (nrbB (lostL K (S.headD [])) (trAtN N cn)))))))))) 
end
end Go.Proofs.YtpiihmbeedlpkaaGreatDoor
