/- What a state leads to, plain: the search from a state (after), the marks of the reference (completing). run of sound: what a call returns. after of sound (what a state leads to): what a call returns. IndexFunc on moves with the closure of sound's proof: what a call returns. What Sound claims is proved, plain. -/
import Derived.Test.YtkhmngljpfibcaaGreatDoorPUu
import Derived.Test.YtkhmngljpfibcaaGreatDoorPBe
import Derived.Test.YtkhmngljpfibcaaGreatDoorPBo
import Derived.Test.YtkhmngljpfibcaaGreatDoorPBm
import Derived.Test.YtkhmngljpfibcaaGreatDoorPQo
import Derived.Test.YtkhmngljpfibcaaGreatDoorPAx
import Derived.Test.YtkhmngljpfibcaaGreatDoorPYm
namespace Go.Proofs.YtkhmngljpfibcaaGreatDoor
set_option maxRecDepth 100000
set_option maxHeartbeats 12800000
open Go.Lib (hid)
section
structure AfI (MV : List Mv) (n start : Nat) (B : List Bool) (Q : List Int) (i : Nat) (part : List Mv) : Prop where
 len : B.length = n
 mem : ∀ k : Nat, k < n → (B.getD k false = true ↔ (k : Int) ∈ Q)
 rng : ∀ q ∈ Q, 0 ≤ q ∧ q < (n : Int)
 nod : Q.Nodup
 q0 : (start : Int) ∈ Q
 lead : ∀ q : Nat, (q : Int) ∈ Q → Lead MV q start
 done : ∀ (j : Nat) (q : Int), j < i → Q[j]? = some q → ∀ x ∈ MV, x.f = q → x.t ∈ Q
 prt : ∀ q : Int, Q[i]? = some q → ∀ x ∈ part, x.t ∈ Q
theorem getB_set (B : List Bool) (k j : Nat) (h : k < B.length) : (B.set k true).getD j false = if k = j then true else B.getD j false := by
 rw [List.getD_eq_getElem?_getD, List.getD_eq_getElem?_getD, List.getElem?_set];by_cases e : k = j
 · subst e; rw [if_pos rfl, if_pos h, if_pos rfl]; rfl
 · rw [if_neg e, if_neg e]
theorem AfI.start (MV : List Mv) (n s : Nat) (h : s < n) : AfI MV n s ((List.replicate n false).set s true) [(s : Int)] 0 [] := by
 refine ⟨by simp, fun k hk => ?_, fun q hq => ?_, by simp, by simp, fun q hq => ?_, fun j q hj => by omega, fun q _ x hx => by cases hx⟩
 · rw [getB_set _ _ _ (by simpa using h)];by_cases e : s = k
   · subst e; simp
   · rw [if_neg e];constructor
     · intro hh;rw [List.getD_eq_getElem?_getD, List.getElem?_replicate] at hh; split at hh <;> simp at hh
     · intro hh;simp at hh; omega
 · simp at hq; subst hq; omega
 · simp at hq;have : q = s := by omega
   subst this; exact .stop
theorem AfI.one {MV : List Mv} {n s : Nat} {B : List Bool} {Q : List Int} {i : Nat} {part : List Mv} (h : AfI MV n s B Q i part) {q : Int} (hq : Q[i]? = some q) {x : Mv} (hx : x ∈ MV) (hf : x.f = q) (hn : mvOk MV n) :
 AfI MV n s (if B.getD x.t.toNat false then B else B.set x.t.toNat true) (if B.getD x.t.toNat false then Q else Q ++ [x.t]) i (part ++ [x]) := by
 obtain ⟨_, _, r3, r4⟩ := hn x hx;obtain ⟨t, ht⟩ := Int.eq_ofNat_of_zero_le r3;have ht' : x.t.toNat = t := by omega
 have htn : t < n := by omega
 have hil := (List.getElem?_eq_some_iff.1 hq).1;rw [ht'];cases hb : B.getD t false with
 | true =>
  have hm := (h.mem t htn).1 hb;simp only [if_true];exact ⟨h.len, h.mem, h.rng, h.nod, h.q0, h.lead, h.done, fun q' hq' y hy => by
   rcases List.mem_append.1 hy with e | e
   · exact h.prt q' hq' y e
   · simp at e; subst e; rw [ht]; exact hm⟩
 | false =>
  have hnm : (t : Int) ∉ Q := fun hm => by rw [(h.mem t htn).2 hm] at hb; cases hb
  rw [if_neg (by decide), if_neg (by decide), ht];have old : ∀ {y : Int}, y ∈ Q → y ∈ Q ++ [(t : Int)] := fun hy => List.mem_append.2 (.inl hy)
  have idx : ∀ {j : Nat}, j < Q.length → (Q ++ [(t : Int)])[j]? = Q[j]? := fun hj => List.getElem?_append_left hj
  have hqn : ∃ qn : Nat, q = (qn : Int) := Int.eq_ofNat_of_zero_le (h.rng q (List.mem_of_getElem? hq)).1;obtain ⟨qn, rfl⟩ := hqn;refine ⟨by rw [List.length_set]; exact h.len, fun k hk => ?_, fun y hy => ?_, ?_, old h.q0, fun y hy => ?_, fun j y hj hy z hz hzf => ?_, fun y hy z hz => ?_⟩
  · rw [getB_set _ _ _ (by rw [h.len]; exact htn)];by_cases e : t = k
    · subst e; simp
    · rw [if_neg e, h.mem k hk];constructor
      · exact old
      · intro hy;rcases List.mem_append.1 hy with e2 | e2
        · exact e2
        · simp at e2; omega
  · rcases List.mem_append.1 hy with e | e
    · exact h.rng y e
    · simp at e; subst e; omega
  · rw [List.nodup_append];exact ⟨h.nod, by simp, fun a ha b hb' => by simp at hb'; subst hb'; exact fun e => hnm (e ▸ ha)⟩
  · rcases List.mem_append.1 hy with e | e
    · exact h.lead y e
    · simp at e;have : y = t := by omega
      subst this;refine (h.lead qn (List.mem_of_getElem? hq)).snoc (k := x.s) ?_;rw [← hf, ← ht]; exact hx
  · rw [idx (by omega)] at hy;exact old (h.done j y hj hy z hz hzf)
  · rw [idx hil] at hy;rcases List.mem_append.1 hz with e | e
    · exact old (h.prt y hy z e)
    · simp at e; subst e; rw [ht]; exact List.mem_append.2 (.inr (by simp))
theorem AfI.next {MV : List Mv} {n s : Nat} {B : List Bool} {Q : List Int} {i : Nat} {part : List Mv} (h : AfI MV n s B Q i part) {q : Int} (hq : Q[i]? = some q) (hp : ∀ x ∈ MV, x.f = q → x ∈ part) : AfI MV n s B Q (i + 1) [] :=
 ⟨h.len, h.mem, h.rng, h.nod, h.q0, h.lead, fun j y hj hy x hx hf => by
  by_cases e : j = i
  · subst e; rw [hq] at hy; cases hy;exact h.prt q hq x (hp x hx hf)
  · exact h.done j y (by omega) hy x hx hf, fun y _ x hx => by cases hx⟩
theorem AfI.room {MV : List Mv} {n s : Nat} {B : List Bool} {Q : List Int} {i : Nat} {part : List Mv} (h : AfI MV n s B Q i part) : Q.length ≤ n := by
 have h1 : (Q.map Int.toNat).Nodup := by
  have := h.nod;rw [List.Nodup, List.pairwise_map];refine List.Pairwise.imp_of_mem ?_ this;intro a b ha hb hne e;have := (h.rng a ha).1; have := (h.rng b hb).1;exact hne (by omega)
 have h2 : ∀ k ∈ Q.map Int.toNat, k < n := by
  intro k hk;obtain ⟨q, hq, rfl⟩ := List.mem_map.1 hk;have := h.rng q hq; omega
 have := nodup_len n _ h1 h2;simpa using this
theorem AfI.end_ {MV : List Mv} {n s : Nat} {B : List Bool} {Q : List Int} {i : Nat} (h : AfI MV n s B Q i []) (hi : Q.length ≤ i) : ∀ q ∈ Q, ∀ x ∈ MV, x.f = q → x.t ∈ Q := fun q hq x hx hf => by
 obtain ⟨j, hj, rfl⟩ := List.getElem_of_mem hq;exact h.done j _ (by omega) (List.getElem?_eq_getElem hj) x hx hf
structure CpI (MV : List Mv) (n : Nat) (goal : Option Nat) (B : List Bool) : Prop where
 len : B.length = n
 snd : ∀ k : Nat, B.getD k false = true → ∃ g, goal = some g ∧ Lead MV g k
 at_ : ∀ g, goal = some g → B.getD g false = true
def falses (B : List Bool) : Nat := B.count false
theorem CpI.start (MV : List Mv) (n : Nat) (goal : Option Nat) (h : ∀ g, goal = some g → g < n) : CpI MV n goal (match goal with | some g => (List.replicate n false).set g true | none => List.replicate n false) := by
 cases goal with
 | none => exact ⟨by simp, fun k hk => by rw [List.getD_eq_getElem?_getD, List.getElem?_replicate] at hk; split at hk <;> simp at hk, fun g hg => by cases hg⟩
 | some g =>
  have hg := h g rfl;refine ⟨by simp, fun k hk => ?_, fun g' hg' => ?_⟩
  · simp only at hk;rw [getB_set _ _ _ (by simpa using hg)] at hk;by_cases e : g = k
    · subst e; exact ⟨g, rfl, .stop⟩
    · rw [if_neg e] at hk;rw [List.getD_eq_getElem?_getD, List.getElem?_replicate] at hk; split at hk <;> simp at hk
  · cases hg';simp only;rw [getB_set _ _ _ (by simpa using hg), if_pos rfl]
theorem CpI.one {MV : List Mv} {n : Nat} {goal : Option Nat} {B : List Bool} (h : CpI MV n goal B) {x : Mv} (hx : x ∈ MV) (hn : mvOk MV n) (ht : B.getD x.t.toNat false = true) : CpI MV n goal (B.set x.f.toNat true) := by
 obtain ⟨r1, r2, r3, r4⟩ := hn x hx;obtain ⟨f, hf⟩ := Int.eq_ofNat_of_zero_le r1;obtain ⟨t, ht'⟩ := Int.eq_ofNat_of_zero_le r3;have hfl : x.f.toNat < B.length := by rw [h.len]; omega
 refine ⟨by rw [List.length_set]; exact h.len, fun k hk => ?_, fun g hg => ?_⟩
 · rw [getB_set _ _ _ hfl] at hk;by_cases e : x.f.toNat = k
   · obtain ⟨g, hg, hl⟩ := h.snd _ ht;refine ⟨g, hg, .step (t := x.t.toNat) (k := x.s) ?_ hl⟩;have e1 : (k : Int) = x.f := by omega
     have e2 : ((x.t.toNat : Nat) : Int) = x.t := by omega
     rw [e1, e2]; exact hx
   · rw [if_neg e] at hk; exact h.snd k hk
 · rw [getB_set _ _ _ hfl]; split
   · rfl
   · exact h.at_ g hg
theorem CpI.iff {MV : List Mv} {n : Nat} {goal : Option Nat} {B : List Bool} (h : CpI MV n goal B) (hc : ∀ x ∈ MV, B.getD x.t.toNat false = true → B.getD x.f.toNat false = true) (k : Nat) : B.getD k false = true ↔ ∃ g, goal = some g ∧ Lead MV g k := by
 constructor
 · exact h.snd k
 · rintro ⟨g, hg, hl⟩
   induction hl with
   | stop => exact h.at_ _ hg
   | @step s t k hx _ ih =>
    have := hc _ hx (by simpa using ih);simpa using this
end
section
open Go.RowKit

theorem wrun_any (w : World) (b : Nat) (N : Nt) (LL : List (List Int)) (MV : List Mv) (fl : Bool) (A : Option Addr) (n c : Nat) (As : Option Addr) (cs : Nat) (Av : Option Addr) (cv : Nat) (Af : Option Addr) (cf : Nat) (Ag : Option Addr) (cg : Nat) (k : Nat) (h : WdI w b N LL MV fl A n c As cs Av cv Af cf Ag cg) (hmo : mvOk MV LL.length) (hk : k < LL.length) (hl : Lead MV k 0) (hl2 : LL.length ≤ 1000000) (hv2 : MV.length ≤ 20000) :
 Calls Tryz.prog 49 #[.pointer (some ⟨b, 0, none⟩), .int .i64 (k : Int)] w fun e w' => ∃ v l, e = .returned v ∧ NS w w' v l ∧ WayL MV k 0 l ∧ l.length < LL.length := by
 have HW := hid h;have HDi := hid (wdist_any w b N LL MV fl A n c As cs Av cv Af cf Ag cg k h hmo hk hl2 hv2);have HMo := hid hmo;have HLe := hid hl;have hn0 : 0 < LL.length := by omega
 clear h hmo hl;go_enter Tryz.func49, Tryz.ntmps49;go_wp2_with fail;((with_reducible refine HDi.out.mono ?_); rintro e w1 ⟨v1, F, rfl, hS, hD⟩)
 obtain ⟨A1, c1, rfl, hz, _⟩ := hS.zin;have hfl := hD.len;rw [hfl];have hf0 := (lead_far HMo.out hD hn0).1 HLe.out;have htop := hD.top 0 hn0;have HWy := hid (wway_any w1 b N LL MV fl A n c As cs Av cv Af cf Ag cg 0 k A1 c1 F (HW.out.below hS.2) HMo.out hz hD hn0 hf0 hl2 hv2);rw [show ((0 : Nat) : Int) = 0 from rfl] at HWy htop;have HB1 := hid hS.2;clear HDi hS hz hf0 hD hfl;go_wp2_with fail;((with_reducible refine HWy.out.mono ?_); rintro e w2 ⟨v2, l, rfl, hS2, hw, hll⟩)
 have HS2 := hid (NS.up HB1.out hS2);have HWl := hid (And.intro hw hll);clear hS2 hw hll;go_wp2_with fail;go_ret;exact ⟨_, l, rfl, HS2.out, HWl.out.1, by have := HWl.out.2; omega⟩
end
section
open Go.RowKit

structure AfS (MV : List Mv) (n start sb : Nat) (w1 : World) (B : List Bool) (Q : List Int) (i : Nat) (part : List Mv) (qv : Value) (wr : World) : Prop where
 af : AfI MV n start B Q i part
 bl : BL wr sb B
 que : QR w1.heap.size wr qv Q
 bel : Below w1.heap.size w1 wr
 il : i ≤ Q.length
theorem qr_below {U : Nat} {w w' : World} {v : Value} {Q : List Int} (h : QR U w v Q) (hb : Below w.heap.size w w') : QR U w' v Q := own_stays h hb
theorem AfS.below {MV : List Mv} {n start sb : Nat} {w1 : World} {B : List Bool} {Q : List Int} {i : Nat} {part : List Mv} {qv : Value} {wr w' : World} (h : AfS MV n start sb w1 B Q i part qv wr) (hb : Below wr.heap.size wr w') : AfS MV n start sb w1 B Q i part qv w' :=
 ⟨h.af, h.bl.below hb, qr_below h.que hb, below_then h.bel hb, h.il⟩
theorem wafter_any (w : World) (b : Nat) (N : Nt) (LL : List (List Int)) (MV : List Mv) (fl : Bool) (A : Option Addr) (n c : Nat) (As : Option Addr) (cs : Nat) (Av : Option Addr) (cv : Nat) (Af : Option Addr) (cf : Nat) (Ag : Option Addr) (cg : Nat) (from_ : Nat) (h : WdI w b N LL MV fl A n c As cs Av cv Af cf Ag cg) (hmo : mvOk MV LL.length) (hf : from_ < LL.length) (hl2 : LL.length ≤ 1000000) (hv2 : MV.length ≤ 20000) :
 Calls Tryz.prog 51 #[.pointer (some ⟨b, 0, none⟩), .int .i64 (from_ : Int)] w fun e w' => ∃ v B Q i, e = .returned v ∧ QR w.heap.size w' v Q ∧ Below w.heap.size w w' ∧ AfI MV LL.length from_ B Q i [] ∧ Q.length ≤ i := by
 have HW := hid h;have HMo := hid hmo;obtain ⟨b0, b1, b2, b3, b4, b5, b6, b7, b8⟩ := h.cells;obtain ⟨n9, hn9⟩ : ∃ n9, n9 = LL.length := ⟨_, rfl⟩;have HN9 := hid hn9;rw [← hn9] at b4 hf hl2;have hmk : ∀ w : World, (Instr.makeSlice 94 (.int .i64 (n9 : Int)) (.int .i64 (n9 : Int))).run Tryz.prog w = .ok (.slice (some ⟨w.heap.size, 0, none⟩) n9 n9) (w.alloc (.cells (madeCells #[.bool false] n9) 4)) := fun w => run_make_row' 94 4 (.bool false) 1 Tryz.underlying94 (by kernel_rfl) rfl .i64 .i64 n9 (by omega) (by omega) w
 obtain ⟨i0, hi, hz0, hz1, hz2⟩ := info_parts intInfo;have HI := hid (And.intro hi (And.intro hz0 (And.intro hz1 hz2)));clear hi hz0 hz1 hz2 h hmo hn9;have hfi : (from_ : Int) < (n9 : Int) := by omega
 have hc0 : (madeCells #[Value.bool false] n9)[from_]? = some (.bool false) := by rw [← Array.getElem?_toList, toList_madeCells_one]; simp [hf]
 go_enter Tryz.func51, Tryz.ntmps51;go_wp2_with fail;clear hmk b0 b1 b2 b3 b4 b5 b6 b7 b8;have HX1 := heap_alloc_new w (.cells ((madeCells #[.bool false] n9).setIfInBounds from_ (.bool true)) 4);have hal := below_alloc (w.alloc (.cells ((madeCells #[.bool false] n9).setIfInBounds from_ (.bool true)) 4)) (.cells #[.int .i64 (from_ : Int)] 3);have HBl0 : BL ((w.alloc (.cells ((madeCells #[.bool false] n9).setIfInBounds from_ (.bool true)) 4)).alloc (.cells #[.int .i64 (from_ : Int)] 3)) w.heap.size ((List.replicate n9 false).set from_ true) := by
  unfold BL;rw [hal.block _ (by simp), HX1]
  congr 2
  apply Array.ext';rw [Array.toList_setIfInBounds, toList_madeCells_one, List.map_set, List.map_replicate]
 have HQ0 : QR w.heap.size ((w.alloc (.cells ((madeCells #[.bool false] n9).setIfInBounds from_ (.bool true)) 4)).alloc (.cells #[.int .i64 (from_ : Int)] 3)) (.slice (some ⟨w.heap.size + 1, 0, none⟩) 1 1) [(from_ : Int)] := by
  have := World.ownsRow_lit (base := w.heap.size) (e := 3) (size := 1) (w.alloc (.cells ((madeCells #[.bool false] n9).setIfInBounds from_ (.bool true)) 4)) #[.int .i64 (from_ : Int)] 1 (by simp) (by unfold maxLen; omega) rfl;rw [World.size_alloc] at this;exact this
 have HAf0 := hid (AfS.mk (AfI.start MV n9 from_ hf) HBl0 HQ0 (below_then (below_alloc w _) hal) (Nat.zero_le _));clear HX1 hal HBl0 HQ0 hc0;generalize (w.alloc _).alloc _ = w1 at *;rw [HN9.out] at HAf0;generalize hsb : w.heap.size = sb at *;go_loopg [6, 7] (n9) (fun g qv iv wr => ∃ (i : Nat) (B : List Bool) (Q : List Int), i + g = n9 ∧ iv = .int .i64 (i : Int) ∧ AfS MV LL.length from_ sb w B Q i [] qv wr);case atStart => exact ⟨0, _, _, by omega, rfl, HAf0.out⟩
 case round =>
  clear HAf0;obtain ⟨i, B, Q, hig, rfl, hA⟩ := hrel;obtain ⟨Aq, cq, rfl⟩ := hA.que.slice;have HA := hid hA;have HK := hid hig;have hQn : Q.length ≤ n9 := by rw [HN9.out]; exact hA.af.room
  have hil := hA.il;have HWr := hid (HW.out.below hA.bel);clear hig;by_cases hlt : i < Q.length
  · obtain ⟨c9, hc⟩ : ∃ c9, Q[i]? = some c9 := ⟨_, List.getElem?_eq_getElem hlt⟩;obtain ⟨gq, cq', he, hgq, hgql, r0⟩ := hA.que.at_ hc;cases he;obtain ⟨hr0, hr1⟩ := hA.af.rng c9 (List.mem_of_getElem? hc);obtain ⟨cn, rfl⟩ := Int.eq_ofNat_of_zero_le hr0;have hcn : cn < LL.length := by omega
    have hsO : cn < (outL MV LL.length).length := by rw [outL_len]; exact hcn
    obtain ⟨ag, rfl, hga, Bm, nr, cr, g9, hrd, hrl⟩ := HW.out.nx cn hsO;have g0 := cell_stays hA.bel g9;have hrow : (outL MV LL.length)[cn]? = some (outL MV LL.length)[cn] := List.getElem?_eq_getElem hsO;have hshort := outL_short MV LL.length cn hrow;have HMem := hid (outL_mem MV LL.length cn hrow);generalize (outL MV LL.length)[cn]'_ = OL at *;obtain ⟨b0, b1, b2, b3, b4, b5, b6, b7, b8⟩ := HWr.out.cells;rw [← HN9.out] at b4 b8;have HRd := hid hrd;have HRl := hid hrl;have HC := hid hc;have hnr : nr ≤ 20000 := by omega
    have hii : (i : Int) < (Q.length : Int) := by omega
    have hci : (cn : Int) < (n9 : Int) := by rw [HN9.out]; omega
    clear hA hrd hrl hrow hc hr0 hr1;go_wp2_with fail;go_quiet (fail);have hbq := below_drewN wr nq;have HA1 := hid (HA.out.below hbq);clear HA HWr b0 b1 b2 b3 b4 b5 b6 b7 b8 r0 g0 g9 hbq;generalize wr.drewN nq = w2 at *;go_wp2_with fail;obtain ⟨go, rfl⟩ : ∃ go, go = gk := ⟨_, rfl⟩;obtain ⟨wo, rfl⟩ : ∃ wo : World, wo = w2 := ⟨_, rfl⟩;go_loopg [39, 6] (nr) (fun g jv qv wr => ∃ (j : Nat) (B : List Bool) (Q : List Int), j + g = nr ∧ jv = .int .i64 (j : Int) ∧ Q[i]? = some (cn : Int) ∧ AfS MV LL.length from_ sb w B Q i (OL.take j) qv wr);case atStart => exact ⟨0, B, Q, by omega, rfl, HC.out, by rw [List.take_zero]; exact HA1.out⟩
    case round =>
     clear HA1 HC hgq hgql hii hQn hil hlt;obtain ⟨j, B2, Q2, hjg, rfl, hc2, hA2⟩ := hrel;obtain ⟨Aq2, cq2, rfl⟩ := hA2.que.slice;have HA := hid hA2;have HJ := hid hjg;have HC := hid hc2;have hjl : j ≤ nr := by omega
     have hQ2 : Q2.length ≤ 1000000 := by have := hA2.af.room; rw [← HN9.out] at this; omega
     clear hjg;by_cases hjt : j < nr
     · have hjt' : j < OL.length := by rw [HRl.out]; exact hjt
       obtain ⟨hxm, hxf⟩ := (HMem.out OL[j]).1 (List.getElem_mem hjt');obtain ⟨_, _, r3, r4⟩ := HMo.out _ hxm;obtain ⟨t, htt⟩ := Int.eq_ofNat_of_zero_le r3;have htn : t < LL.length := by omega
       have hBt : t < B2.length := by rw [hA2.af.len]; exact htn
       have HTk := hid (List.take_succ_eq_append_getElem hjt');have HOne := hid (hA2.af.one hc2 hxm hxf HMo.out);obtain ⟨am, rfl, hpa, m0, m1, m2⟩ := mv_cells (HRd.out.below hA2.bel) hjt';have hsbl := hA2.bl.lt;have y0 := hA2.bl.cell hBt;have hbt : B2.getD t false = B2[t] := by simp [hBt]
       have hti : (t : Int) < (n9 : Int) := by rw [HN9.out]; omega
       have hil2 := (List.getElem?_eq_some_iff.1 hc2).1;rw [show OL[j].t.toNat = t by omega, hbt] at HOne;rw [htt] at m1;have HXt := hid htt;generalize OL[j] = x at *;obtain ⟨xf, xt, xs⟩ := x;simp only at m0 m1 m2 HXt HOne;clear hxm hxf r3 r4 htt hjt';cases hb : B2[t] with
       | true =>
        rw [hb] at HOne y0;simp only [if_true] at HOne;have y1 := cell_stays (below_alloc wr (.cells #[.int .i64 xf, .int .i64 (t : Int), .int .i64 xs] 113)) y0;have HA5 := hid (AfS.mk HOne.out (hA2.bl.below (below_alloc wr (.cells #[.int .i64 xf, .int .i64 (t : Int), .int .i64 xs] 113))) (qr_below hA2.que (below_alloc wr (.cells #[.int .i64 xf, .int .i64 (t : Int), .int .i64 xs] 113))) (below_then hA2.bel (below_alloc wr (.cells #[.int .i64 xf, .int .i64 (t : Int), .int .i64 xs] 113))) hA2.il);clear hA2 HA hb;go_wp2_with fail;go_roundg (gk - 1);case measure => have := HJ.out; omega
        case rel => exact ⟨j + 1, B2, Q2, by have := HJ.out; omega, by go_num, HC.out, by rw [HTk.out]; exact HA5.out⟩
       | false =>
        rw [hb] at HOne y0;rw [if_neg (by decide), if_neg (by decide), HXt.out] at HOne;have ha := below_alloc wr (.cells #[.int .i64 xf, .int .i64 (t : Int), .int .i64 xs] 113);have y1 := cell_stays ha y0;have y2 := (hA2.bl.below ha).soft t;have y3 := hA2.bl.soft t;have hset : wr.grownBy (wr.setCell ⟨sb, t, none⟩ (.bool true)) (some sb) := Lib.grownBy_setB (grown_refl wr (some sb)) t _;have ha2 := below_alloc (wr.setCell ⟨sb, t, none⟩ (.bool true)) (.cells #[.int .i64 xf, .int .i64 (t : Int), .int .i64 xs] 113);have HQs := hid (qr_below (show QR w.heap.size (wr.setCell ⟨sb, t, none⟩ (.bool true)) (.slice Aq2 Q2.length cq2) Q2 from hA2.que.kept hset (own_other hA2.que hA2.bl (by decide))) ha2);have HBs := hid ((hA2.bl.set t true).below ha2);have HBe := hid (((hA2.bel.setCell (p := ⟨sb, t, none⟩) (by show w.heap.size ≤ sb; omega) (.bool true))).alloc (by have := hA2.bel.size; simp; omega) (.cells #[.int .i64 xf, .int .i64 (t : Int), .int .i64 xs] 113));have hsz2 : (wr.setCell ⟨sb, t, none⟩ (.bool true)).heap.size = wr.heap.size := by simp
        have hx9 := heap_alloc_new (wr.setCell ⟨sb, t, none⟩ (.bool true)) (.cells #[.int .i64 xf, .int .i64 (t : Int), .int .i64 xs] 113);rw [hsz2] at hx9;obtain ⟨x0, x1, x2⟩ := mvb_cells9 hx9;clear hA2 HA hb hset ha ha2;go_wp2_with (at_builtin; refine wpList_append_own _ rfl _ _ 27 rfl w.heap.size 3 i0 (.int .i64 0) 1 8 Tryz.underlying27 HI.out.1 HI.out.2.1 HI.out.2.2.1 HI.out.2.2.2 rfl (by decide) (.slice Aq2 Q2.length cq2) _ _ rfl (HQs.out.alloc _) ⟨wr.heap.size + 1, 0, none⟩ 1 1 [.int .i64 (t : Int)] rfl rfl ?c1 ?c2 ?c3 ?c4 ?c5 ?_);case c2 => rfl
        case c3 => unfold maxLen; omega
        case c4 => omega
        case c5 => have := HBe.out.size; simp at this ⊢; omega
        intro v7 w7 hown7 hgrow7 _;have HQ7 := hid (show QR w.heap.size w7 v7 (Q2 ++ [(t : Int)]) from by rw [hsb]; unfold QR; rw [List.length_append, List.map_append]; exact hown7);have hnb := row_block (HQs.out.alloc (.cells #[.int .i64 (t : Int)] 3)) (HBs.out.below (below_alloc _ _)) (by decide);have HB7 := hid (show BL w7 sb (B2.set t true) from by unfold BL; rw [hgrow7.block sb (HBs.out.below (below_alloc _ _)).lt hnb]; exact HBs.out.below (below_alloc _ _));have HE7 := hid ((HBe.out.alloc HBe.out.size (.cells #[.int .i64 (t : Int)] 3)).grown hgrow7 (by have := HBe.out.size; simp at this ⊢; omega) (fun k hk => (HQs.out.lt k hk).1));have HA7 := hid (AfS.mk HOne.out HB7.out HQ7.out HE7.out (by rw [List.length_append]; omega));have HC7 := hid (show (Q2 ++ [(t : Int)])[i]? = some (cn : Int) by rw [List.getElem?_append_left hil2]; exact HC.out);clear hown7 hgrow7 hnb HQs HBs HBe hx9 x0 x1 x2 y0 y1 y2 y3 hsz2 HQ7 HB7 HE7;go_wp2_with fail;go_roundg (gk - 1);case measure => have := HJ.out; omega
        case rel => exact ⟨j + 1, _, _, by have := HJ.out; omega, by go_num, HC7.out, by rw [HTk.out, HXt.out]; exact HA7.out⟩
     · have HA7 := hid (show AfS MV LL.length from_ sb w B2 Q2 (i + 1) [] (.slice Aq2 Q2.length cq2) wr from ⟨hA2.af.next hc2 (fun x hx hf => by rw [List.take_of_length_le (by rw [HRl.out]; omega)]; exact (HMem.out x).2 ⟨hx, hf⟩), hA2.bl, hA2.que, hA2.bel, by have := (List.getElem?_eq_some_iff.1 hc2).1; omega⟩);have hin : i < n9 := by have h1 := (List.getElem?_eq_some_iff.1 hc2).1; have h2 := hA2.af.room; rw [← HN9.out] at h2; omega
       clear hA2 HA hc2;go_wp2_with fail;go_roundg (go - 1);case measure => have := HK.out; omega
       case rel => exact ⟨i + 1, B2, Q2, by have := HK.out; omega, by go_num, HA7.out⟩
  · have hE := hA.af;go_wp2_with fail;go_ret;exact ⟨_, B, Q, i, rfl, by rw [← hsb] at *; exact HA.out.que, HA.out.bel, HA.out.af, by omega⟩
end
section
open Go.RowKit

def gidx {α : Type} (p : α → Bool) (L : List α) : Int := if L.findIdx p = L.length then -1 else ((L.findIdx p : Nat) : Int)
theorem gidx_at {α : Type} {p : α → Bool} {L : List α} {k : Nat} (h : k < L.length) (hp : p L[k] = true) (hno : ∀ s ∈ L.take k, p s = false) : gidx p L = (k : Int) := by
 have e : L.findIdx p = k := by
  rw [List.findIdx_eq h];refine ⟨hp, fun j hj => ?_⟩;have hm : L[j] ∈ L.take k := by
   rw [List.mem_take_iff_getElem];exact ⟨j, by omega, rfl⟩
  simp [hno _ hm]
 unfold gidx;rw [e, if_neg (by omega)]
theorem gidx_no {α : Type} {p : α → Bool} {L : List α} (h : ∀ s ∈ L, p s = false) : gidx p L = -1 := by
 unfold gidx;rw [if_pos (List.findIdx_eq_length_of_false h)]
theorem gidx_yes {α : Type} {p : α → Bool} {L : List α} {x : α} (hx : x ∈ L) (hp : p x = true) : ∃ (k : Nat) (y : α), gidx p L = (k : Int) ∧ L[k]? = some y ∧ p y = true := by
 have hlt : L.findIdx p < L.length := List.findIdx_lt_length_of_exists ⟨x, hx, hp⟩;refine ⟨L.findIdx p, L[L.findIdx p], ?_, List.getElem?_eq_getElem hlt, List.findIdx_getElem (w := hlt)⟩;unfold gidx;rw [if_neg (by omega)]
def KB (w : World) (kb : Nat) (k : Int) : Prop := w.heap[kb]? = some (.cells #[.int .i64 k] 3 (0, 0))
theorem KB.below {w w' : World} {kb : Nat} {k : Int} (h : KB w kb k) (hb : Below w.heap.size w w') : KB w' kb k := by
 unfold KB; rw [hb.block kb (Array.getElem?_eq_some_iff.1 h).1]; exact h
def treB (k : Int) (x : Mv) : Bool := decide (x.t = k) && decide (x.f < k)
theorem wpr1_any (f t s k : Int) (kb : Nat) (w : World) (h : KB w kb k) :
 Calls Tryz.prog 122 #[.agg #[.int .i64 f, .int .i64 t, .int .i64 s], .pointer (some ⟨kb, 0, none⟩)] w fun e w' => e = .returned (.bool (treB k ⟨f, t, s⟩)) ∧ Below w.heap.size w w' := by
 have h' : (w.alloc (.cells #[.int .i64 f, .int .i64 t, .int .i64 s] 113)).heap[kb]? = some (.cells #[.int .i64 k] 3 (0, 0)) := h.below (below_alloc w _);have c0 : (w.alloc (.cells #[.int .i64 f, .int .i64 t, .int .i64 s] 113)).cell? ⟨kb, 0, none⟩ = some (.int .i64 k) := by simp only [World.cell?, h']; rfl
 clear h h';by_cases h1 : t = k
 · have q1 : (t == k) = true := by rw [beq_iff_eq]; exact h1
   by_cases h2 : f < k
   · have q2 : decide (f < k) = true := decide_eq_true h2;have HV := hid (show treB k ⟨f, t, s⟩ = true by unfold treB; simp [h1, h2]);generalize treB k ⟨f, t, s⟩ = R at *;clear h1 h2;go_enter Tryz.func122, Tryz.ntmps122;go_wp2_with fail;go_ret;exact ⟨ret_bool HV.out.symm, below_alloc _ _⟩
   · have q2 : decide (f < k) = false := decide_eq_false h2;have HV := hid (show treB k ⟨f, t, s⟩ = false by unfold treB; simp [h2]);generalize treB k ⟨f, t, s⟩ = R at *;clear h1 h2;go_enter Tryz.func122, Tryz.ntmps122;go_wp2_with fail;go_ret;exact ⟨ret_bool HV.out.symm, below_alloc _ _⟩
 · have q1 : (t == k) = false := by rw [beq_eq_false_iff_ne]; exact h1
   have HV := hid (show treB k ⟨f, t, s⟩ = false by unfold treB; simp [h1]);generalize treB k ⟨f, t, s⟩ = R at *;clear h1;go_enter Tryz.func122, Tryz.ntmps122;go_wp2_with fail;go_ret;exact ⟨ret_bool HV.out.symm, below_alloc _ _⟩
theorem mindex_pr (A : Option Addr) (n cap : Nat) (L : List Mv) (w : World) (h : Rd mvC 3 w A L) (hn : L.length = n) (hn4 : n ≤ 9223372036854775806) (kb : Nat) (k9 : Int) (hS : KB w kb k9) :
 Calls Tryz.prog 121 #[.slice A n cap, .func (.func 122) #[] #[.pointer (some ⟨kb, 0, none⟩)]] w fun e w' => e = .returned (.int .i64 (gidx (treB k9) L)) ∧ Below w.heap.size w w' := by
 have H0 := hid h; clear h;have HN := hid hn; clear hn;have HSt := hid hS; clear hS;go_enter Tryz.func121, Tryz.ntmps121;go_wp2_with fail;go_loopg [8] (n) (fun g i wr => ∃ k : Nat, k + g = n ∧ i = .int .i64 k ∧ (∀ s ∈ L.take k, (treB k9) s = false) ∧ Below w.heap.size w wr);case atStart => exact ⟨0, by omega, rfl, by simp, Below.refl _ _⟩
 case round =>
  obtain ⟨k, hk, rfl, hno, hB⟩ := hrel;have HK := hid hk;have HNo := hid hno;have HB := hid hB;have HT := hid (H0.out.below hB);have hle : k ≤ n := by omega
  clear hk hno hB;by_cases hlt : k < n
  · have hlt' : k < L.length := by rw [HN.out]; exact hlt
    obtain ⟨am, rfl, hpa, m0, m1, m2⟩ := mv_cells HT.out hlt';have HTk := hid (List.take_succ_eq_append_getElem hlt');have HAt := hid (gidx_at (p := (treB k9)) hlt');generalize L[k] = X at *;obtain ⟨xf, xt, xs⟩ := X;simp only at m0 m1 m2;have HX := hid (wpr1_any xf xt xs k9 kb wr (HSt.out.below HB.out));clear hlt';cases hv : (treB k9) ⟨xf, xt, xs⟩ with
    | true =>
     rw [hv] at HX;have HV := hid (HAt.out hv HNo.out); clear hv;go_wp2_with fail;((with_reducible refine HX.out.mono ?_); rintro e w1 ⟨rfl, hb1⟩)
     have HB1 := hid (below_then HB.out hb1);go_wp2_with fail;go_ret;exact ⟨ret_int HV.out.symm, HB1.out⟩
    | false =>
     rw [hv] at HX;have HV := hid hv; clear hv HAt;go_wp2_with fail;((with_reducible refine HX.out.mono ?_); rintro e w1 ⟨rfl, hb1⟩)
     have HB1 := hid (below_then HB.out hb1);clear hb1;go_wp2_with fail;go_roundg (gk - 1);case measure => have := HK.out; omega
     case rel => exact ⟨k + 1, by have := HK.out; omega, by go_num, by
      rw [HTk.out]; intro s hs;rcases List.mem_append.1 hs with h1 | h1
      · exact HNo.out s h1
      · simp at h1; subst h1; exact HV.out, HB1.out⟩
  · have HV := hid (show gidx (treB k9) L = -1 from gidx_no (by have := HNo.out; rwa [List.take_of_length_le (by rw [HN.out]; omega)] at this));go_wp2_with fail;go_ret;exact ⟨ret_int HV.out.symm, HB.out⟩
end
section
section
variable {N : Nt} {T : TS}
theorem Gr.of {most : Nat} (hv : ntB N = true) (hg : growT N (iniM N) most = some T) : Gr N T := by
 obtain ⟨hI, hD, _, _⟩ := grow_good (one_mk hv _) hg;exact ⟨hv, hI, hD⟩
theorem Gr.noO (h : Gr N T) (ho : ¬ RsO T.states) : NoO T := fun j d hd => by
 cases hh : d.om with
 | false => rfl
 | true => exact absurd ((omega_iff h.i h.ok h.ism).2 ⟨j, d, hd, hh⟩) ho
theorem Gr.mvf (h : Gr N T) (hno : NoO T) : MvF N T.states (movesOf T) := fun _ hx => mv_fire h.i h.ok h.ism hno hx
def RsAt (N : Nt) (LL : List (List Int)) (MV : List Mv) (r a : Int) : Prop :=
 RsN N LL MV r ∧ (r = 2 → ∃ (k : Nat) (s : List Int), a = (k : Int) ∧ LL[k]? = some s ∧ 0 < s.getD N.snk.toNat 0 ∧ s ≠ finM N) ∧ (r = 3 → ∃ k : Nat, a = (k : Int) ∧ k < LL.length ∧ ¬ Leads N LL MV k) ∧ (r = 4 → ∃ (k : Nat) (t : Tr), a = (k : Int) ∧ N.tr[k]? = some t ∧ ∀ s ∈ LL, canT t s = false)
theorem RsN.is (LL : List (List Int)) (MV : List Mv) {r : Int} (h : RsN N LL MV r) : (r = 1 ∧ RsO LL) ∨ (¬ RsO LL ∧ (r = 2 ∨ r = 3 ∨ r = 4 ∨ (r = 0 ∧ ¬ RsB N LL ∧ ¬ RsL N LL MV ∧ ¬ RsD N LL))) := by
 rcases h with ⟨h1, h2⟩ | ⟨h1, h2, h3⟩ | ⟨h1, h2, h3, h4⟩ | ⟨h1, h2, h3, h4, h5⟩ | ⟨h1, h2, h3, h4, h5⟩
 · exact .inl ⟨h1, h2⟩
 · exact .inr ⟨h1, .inl h2⟩
 · exact .inr ⟨h1, .inr (.inl h3)⟩
 · exact .inr ⟨h1, .inr (.inr (.inl h4))⟩
 · exact .inr ⟨h1, .inr (.inr (.inr ⟨h5, h2, h3, h4⟩))⟩
theorem clm_snd (h : Gr N T) (hw : wfP N) (hno : NoO T) (hb : ¬ RsB N T.states) (hl : ¬ RsL N T.states (movesOf T)) (hd : ¬ RsD N T.states) {g : Nat} (hg : T.states[g]? = some (finM N)) {F : List Int} (hF : IsD (movesOf T) g T.states.length F)
 {V : List Mv} (hV : V.length + 1 = T.states.length) (hVm : ∀ (i : Nat) (x : Mv), V[i]? = some x → x ∈ movesOf T ∧ x.t = (i : Int) + 1 ∧ x.f < (i : Int) + 1) : ClmP N 1 0 [] [] T.states V [] [F] := by
 have hmo := (h.mvf hno).ok;refine ⟨fun _ => hw, .inl ⟨rfl, snd_cert h hno hg hF (fun k hk => ?_) (fun s hs h0 => ?_) (fun t ht => ?_) hV hVm⟩⟩
 · have h1 : Leads N T.states (movesOf T) k := Classical.byContradiction fun hn => hl ⟨k, hk, hn⟩
   obtain ⟨g', hg', hlead⟩ := h1;have : g' = g := h.i.nod g' g (finM N) hg' hg;subst this;exact (lead_far hmo hF hk).1 hlead
 · exact Classical.byContradiction fun hn => hb ⟨s, hs, h0, hn⟩
 · refine Classical.byContradiction fun hn => hd ⟨t, ht, fun s hs => ?_⟩
   cases hc : canT t s with
   | false => rfl
   | true => exact absurd ⟨s, hs, hc⟩ hn
theorem clm_sink (h : Gr N T) (hw : wfP N) (hno : NoO T) {k : Nat} {s : List Int} (hk : T.states[k]? = some s) (h0 : 0 < s.getD N.snk.toNat 0) (hf : s ≠ finM N) {l : List Int} (hl : WayL (movesOf T) k 0 l) (hll : l.length ≤ 1000) : ClmP N 2 0 l [] [] [] [] [] :=
 ⟨fun _ => hw, .inr (.inl ⟨rfl, uns_sink h hno hl hll hk h0 hf⟩)⟩
theorem clm_lost (h : Gr N T) (hw : wfP N) (hno : NoO T) {k : Nat} (hk : k < T.states.length) (hn : ¬ Leads N T.states (movesOf T) k) {l : List Int} (hl : WayL (movesOf T) k 0 l) (hll : l.length ≤ 1000) {Q : List Int} {K : List (List Int)}
 (hq0 : (k : Int) ∈ Q) (hqr : ∀ q ∈ Q, 0 ≤ q ∧ q < (T.states.length : Int)) (hql : ∀ q : Nat, (q : Int) ∈ Q → Lead (movesOf T) q k) (hqc : ∀ q ∈ Q, ∀ x ∈ movesOf T, x.f = q → x.t ∈ Q) (hK : K = Q.map fun q => T.states.getD q.toNat []) : ClmP N 2 0 l [] K [] [] [] := by
 have hmem : ∀ s, s ∈ K ↔ ∃ q : Nat, (q : Int) ∈ Q ∧ T.states[q]? = some s := by
  intro s;subst hK;constructor
  · intro hs;obtain ⟨q, hq, rfl⟩ := List.mem_map.1 hs;obtain ⟨n, rfl⟩ := Int.eq_ofNat_of_zero_le (hqr q hq).1;have hlt : n < T.states.length := by have := (hqr _ hq).2; omega
    refine ⟨n, hq, ?_⟩;rw [Int.toNat_natCast, List.getElem?_eq_getElem hlt, getD_at (List.getElem?_eq_getElem hlt)]
  · rintro ⟨q, hq, hs⟩;refine List.mem_map.2 ⟨(q : Int), hq, ?_⟩;rw [Int.toNat_natCast, getD_at hs]
 refine ⟨fun _ => hw, .inr (.inl ⟨rfl, uns_lost h hno hl hll (List.getElem?_eq_getElem hk) (fun s hs => ?_) ((hmem _).2 ⟨k, hq0, List.getElem?_eq_getElem hk⟩) (fun s hs t ht hc => ?_) (fun hf => ?_)⟩)⟩
 · obtain ⟨q, _, hq⟩ := (hmem s).1 hs;exact List.mem_of_getElem? hq
 · obtain ⟨q, hq, hqs⟩ := (hmem s).1 hs;obtain ⟨j, hj, rfl⟩ := List.getElem_of_mem ht;obtain ⟨x, hx, hxf, hxs⟩ := mv_of h.i h.d hqs (List.getElem?_eq_getElem hj) hc;obtain ⟨f, u, v, tr, a, b, ex, hfa, hub, hvt, hca, hfi, _⟩ := h.mvf hno x hx;subst ex;simp only at hxf hxs;have e1 : f = q := by omega
   have e2 : v = j := by omega
   subst e1 e2;rw [hqs] at hfa; cases hfa;rw [List.getElem?_eq_getElem hj] at hvt; cases hvt;rw [hfi];exact (hmem b).2 ⟨u, hqc _ hq _ hx rfl, hub⟩
 · obtain ⟨q, hq, hqs⟩ := (hmem _).1 hf;exact hn ⟨q, hqs, hql q hq⟩
theorem clm_dead (h : Gr N T) (hw : wfP N) {k : Nat} {t : Tr} (hk : N.tr[k]? = some t) (hno : ∀ s ∈ T.states, canT t s = false) : ClmP N 2 (k : Int) [] [] T.states [] [] [] := by
 obtain ⟨hl, e⟩ := List.getElem?_eq_some_iff.1 hk;exact ⟨fun _ => hw, .inr (.inl ⟨rfl, uns_dead h hl (fun s hs => by rw [e]; exact hno s hs)⟩)⟩
theorem clm_pump (hv : ntB N = true) (hw : wfP N) {most : Nat} (hg : growT N (iniM N) most = some T) (hm : most ≤ 1000) {i : Nat} {d : Nd} {g : Nat} {z : Nd} {W1 W2 : List Nat} {p : Nat} (hf : FOm N T i d g z W1 W2 p) :
 ClmP N 2 0 (W1.map Int.ofNat) (W2.map Int.ofNat) [] [] [] [] := by
 obtain ⟨e1, e2, _, hle, hlt, hp, hl⟩ := om_pump (one_mk hv _) hg hm hf;have hne : (W2.map Int.ofNat).isEmpty = false := by
  cases hh : W2 with
  | nil => exact absurd hh hf.ne
  | cons a l => rfl
 refine ⟨fun _ => hw, .inr (.inl ⟨rfl, ?_⟩)⟩;unfold unsB;rw [hne];simp only [Bool.false_eq_true, if_false];unfold vpumB;have e3 : runI N (W1.map Int.ofNat) = (z.ms, W1.length, 0) := e1;have e4 : atMost z.ms d.pn = true := (atMost_iff _ _).2 hf.le;have e5 : z.ms ≠ d.pn := fun e => by rw [e] at hlt; omega
 rw [e3];simp only;rw [e2, hne];simp [e4, e5]
end
end
end Go.Proofs.YtkhmngljpfibcaaGreatDoor
