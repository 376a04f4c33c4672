/- cover.fire: what a call returns. -/
import Derived.Test.YtkhmngljpfibcaaGreatDoorPUu
import Derived.Test.YtkhmngljpfibcaaGreatDoorPCo
namespace Go.Proofs.YtkhmngljpfibcaaGreatDoor
set_option maxRecDepth 100000
set_option maxHeartbeats 6400000
open Go.Lib (hid)
open Go.RowKit

def bnd (B : Int) (m : List Int) : Prop := ∀ x ∈ m, -B ≤ x ∧ x ≤ B
theorem bnd_set {B : Int} {m : List Int} (h : bnd B m) (p : Nat) (x : Int) (hx : -(B + 1) ≤ x ∧ x ≤ B + 1) : bnd (B + 1) (m.set p x) := by
 intro y hy;rcases List.mem_or_eq_of_mem_set hy with h1 | h1
 · have := h y h1; omega
 · subst h1; exact hx
theorem bnd_get {B : Int} {m : List Int} (h : bnd B m) (h0 : 0 ≤ B) (p : Nat) : -B ≤ m.getD p 0 ∧ m.getD p 0 ≤ B := by
 by_cases hp : p < m.length
 · have := h _ (List.getElem_mem hp); simpa [hp] using this
 · rw [List.getD_eq_getElem?_getD, List.getElem?_eq_none (by omega)]; simp; omega
theorem dec1_bnd (x : Int) : x - 1 ≤ dec1 x ∧ dec1 x ≤ x := by unfold dec1; split <;> omega
theorem inc1_bnd (x : Int) : x ≤ inc1 x ∧ inc1 x ≤ x + 1 := by unfold inc1; split <;> omega
theorem decs_bnd (l : List Int) : ∀ (B : Int) (m : List Int), 0 ≤ B → bnd B m → bnd (B + l.length) (decs m l) := by
 induction l with
 | nil => intro B m _ h; simpa [decs] using h
 | cons p l ih =>
  intro B m h0 h;have h1 := bnd_get h h0 p.toNat;have h2 := dec1_bnd (m.getD p.toNat 0);have := ih (B + 1) (m.set p.toNat (dec1 (m.getD p.toNat 0))) (by omega) (bnd_set h _ _ (by omega));rw [List.length_cons, show B + ((l.length + 1 : Nat) : Int) = B + 1 + l.length by omega];exact this
theorem incs_bnd (l : List Int) : ∀ (B : Int) (m : List Int), 0 ≤ B → bnd B m → bnd (B + l.length) (incs m l) := by
 induction l with
 | nil => intro B m _ h; simpa [incs] using h
 | cons p l ih =>
  intro B m h0 h;have h1 := bnd_get h h0 p.toNat;have h2 := inc1_bnd (m.getD p.toNat 0);have := ih (B + 1) (m.set p.toNat (inc1 (m.getD p.toNat 0))) (by omega) (bnd_set h _ _ (by omega));rw [List.length_cons, show B + ((l.length + 1 : Nat) : Int) = B + 1 + l.length by omega];exact this
theorem decs_round (M l : List Int) (k p : Nat) (hk : k < l.length) (hp : l[k] = (p : Int)) (hpm : p < M.length) (B : Int) (h0 : 0 ≤ B) (hM : bnd B M) :
 ∃ h : p < (decs M (l.take k)).length, decs M (l.take (k + 1)) = (decs M (l.take k)).set p (dec1 (decs M (l.take k))[p]) ∧ -(B + k) ≤ (decs M (l.take k))[p] ∧ (decs M (l.take k))[p] ≤ B + k := by
 have hlen : (decs M (l.take k)).length = M.length := decs_len _ _;have hb := decs_bnd (l.take k) B M h0 hM;rw [List.length_take, Nat.min_eq_left (by omega)] at hb;have h1 : p < (decs M (l.take k)).length := by omega
 refine ⟨h1, ?_, hb _ (List.getElem_mem h1)⟩;rw [decs_snoc M l k hk, hp]; simp [h1]
theorem incs_round (M l : List Int) (k p : Nat) (hk : k < l.length) (hp : l[k] = (p : Int)) (hpm : p < M.length) (B : Int) (h0 : 0 ≤ B) (hM : bnd B M) :
 ∃ h : p < (incs M (l.take k)).length, incs M (l.take (k + 1)) = (incs M (l.take k)).set p (inc1 (incs M (l.take k))[p]) ∧ -(B + k) ≤ (incs M (l.take k))[p] ∧ (incs M (l.take k))[p] ≤ B + k := by
 have hlen : (incs M (l.take k)).length = M.length := incs_len _ _;have hb := incs_bnd (l.take k) B M h0 hM;rw [List.length_take, Nat.min_eq_left (by omega)] at hb;have h1 : p < (incs M (l.take k)).length := by omega
 refine ⟨h1, ?_, hb _ (List.getElem_mem h1)⟩;rw [incs_snoc M l k hk, hp]; simp [h1]
theorem foldl_max_le (l : List Int) : ∀ a c : Int, l.foldl max a ≤ c ↔ a ≤ c ∧ ∀ x ∈ l, x ≤ c := by
 induction l with
 | nil => intro a c; simp
 | cons b l ih => intro a c; rw [List.foldl_cons, ih, Int.max_le]; simp [and_assoc]
theorem max_big (m : List Int) (h : 0 < m.length) : decide (Lib.maxOf m ≤ 100) = !bigM m := by
 cases m with
 | nil => simp at h
 | cons a l =>
  have : Lib.maxOf (a :: l) = l.foldl max a := by unfold Lib.maxOf; rw [List.foldl_cons, List.headD_cons, Int.max_self]
  rw [this, Bool.eq_iff_iff, decide_eq_true_eq, foldl_max_le];unfold bigM;simp
def FPo (L : List Int) (b : Bool) (w : World) (e : Ending) (w' : World) : Prop := ∃ v, e = .returned (.tuple #[v, .bool b]) ∧ NS w w' v L
def TB (w : World) (b : Nat) (lb : ByteArray) (Ai : Option Addr) (ni ci : Nat) (Ao : Option Addr) (no co : Nat) : Prop := w.cell? ⟨b, 0, none⟩ = some (.string lb) ∧ w.cell? ⟨b, 1, none⟩ = some (.slice Ai ni ci) ∧ w.cell? ⟨b, 2, none⟩ = some (.slice Ao no co)
theorem TB.new (w : World) (lb : ByteArray) (Ai : Option Addr) (ni ci : Nat) (Ao : Option Addr) (no co : Nat) : TB (w.alloc (.cells #[.string lb, .slice Ai ni ci, .slice Ao no co] 79)) w.heap.size lb Ai ni ci Ao no co := by
 have h := heap_alloc_new w (.cells #[.string lb, .slice Ai ni ci, .slice Ao no co] 79);refine ⟨?_, ?_, ?_⟩ <;> (unfold World.cell?; rw [h]; rfl)
theorem TB.below {w w' : World} {b : Nat} {lb : ByteArray} {Ai : Option Addr} {ni ci : Nat} {Ao : Option Addr} {no co : Nat} (h : TB w b lb Ai ni ci Ao no co) (hb : Below w.heap.size w w') : TB w' b lb Ai ni ci Ao no co :=
 ⟨cell_stays hb h.1, cell_stays hb h.2.1, cell_stays hb h.2.2⟩
theorem cfire_any (lb : ByteArray) (Ai Ao Am : Option Addr) (ni ci no co m cm : Nat) (li lo M : List Int) (w : World) (hi : ZIn w Ai li) (hni : li.length = ni) (hni2 : ni ≤ 1000) (ho : ZIn w Ao lo) (hno : lo.length = no) (hno2 : no ≤ 1000) (hM : ZIn w Am M) (hm : M.length = m) (hm0 : 0 < m) (hm2 : m ≤ 1000000) (hin : inM li m) (hon : inM lo m) (hbd : bnd 1000 M) :
 Calls Tryz.prog 199 #[.agg #[.string lb, .slice Ai ni ci, .slice Ao no co], .slice Am m cm] w (FPo (fireT ⟨lb, li, lo⟩ M) (!bigM (fireT ⟨lb, li, lo⟩ M)) w) := by
 have HB := hid (below_alloc w (.cells #[.string lb, .slice Ai ni ci, .slice Ao no co] 79));have HT0 := hid (TB.new w lb Ai ni ci Ao no co);have HCl := hid (clone_any Am m cm M _ (hM.below HB.out) hm (by omega));have HZi0 := hid (hi.below HB.out);have HZo0 := hid (ho.below HB.out);have HR := hid (show fireT ⟨lb, li, lo⟩ M = incs (decs M li) lo from rfl);generalize fireT ⟨lb, li, lo⟩ M = R at *;have Hli := hid hni;have Hlo := hid hno;have HInli := hid hin;have HInlo := hid hon;have HLp := hid hm;have HBd := hid hbd;clear hi ho hM hin hon hni hno hbd hm;go_enter Tryz.func199, Tryz.ntmps199;go_wp2_with fail;generalize w.alloc _ = w0 at *;((with_reducible refine HCl.out.mono ?_); rintro e w1 ⟨v, rfl, hS1⟩)
 obtain ⟨gb, cap, rfl, hgb, hgl⟩ := hS1.row (by rw [HLp.out]; exact hm0);rw [HLp.out] at hS1 ⊢;have HGb := hid hgb;have HGl := hid hgl;have HS1 := hid hS1;have HT := hid HT0.out;have HT1 := hid (HT0.out.below hS1.2);have HZi := hid HZi0.out;have HZo := hid HZo0.out;clear hS1 HCl HT0 HZi0 HZo0 hgb hgl;obtain ⟨tc0, tc1, tc2⟩ := HT1.out;go_wp2_with fail;clear HT1;go_loopg [16] (ni) (fun g iv wr => ∃ k : Nat, k + g = ni ∧ iv = .int .i64 k ∧ NS w0 wr (.slice (some ⟨gb, 0, none⟩) m cap) (decs M (li.take k)));case atStart => exact ⟨0, by omega, rfl, by rw [List.take_zero]; exact HS1.out⟩
 case round =>
  obtain ⟨k, hk, rfl, hS⟩ := hrel;have HK := hid hk;have HS := hid hS;have hle : k ≤ ni := by omega
  have HZr := hid (HZi.out.below hS.2);have HTr := hid (HT.out.below hS.2);have hgr : gb < wr.heap.size := (hS.1.lt gb rfl).2;clear hk hS;obtain ⟨tc0, tc1, tc2⟩ := HTr.out;by_cases hlt : k < ni
  · have hlt' : k < li.length := by rw [Hli.out]; exact hlt
    obtain ⟨ap, rfl, hpa, q0⟩ := HZr.out k hlt';obtain ⟨p, hp⟩ := Int.eq_ofNat_of_zero_le (HInli.out _ (List.getElem_mem hlt')).1;have hpm : p < m := by have := (HInli.out _ (List.getElem_mem hlt')).2; omega
    obtain ⟨hpl, hrd, hx1, hx2⟩ := decs_round M li k p hlt' hp (by rw [HLp.out]; exact hpm) 1000 (by omega) HBd.out;rw [hp] at q0;have HRd := hid hrd;have HC := hid (HS.out.cells p hpl);have hMo := moreV_dec (decs M (li.take k))[p];generalize (decs M (li.take k))[p] = x at *;generalize decs M (li.take k) = D at *;clear hrd hp hlt' hpl;obtain ⟨r0, r1⟩ := HC.out;have HMore := hid (fun w => more_any x (-1) w (by omega) (by omega));rw [hMo] at HMore;clear hMo;go_wp2_with fail;((with_reducible refine (HMore.out _).mono ?_); rintro e w2 ⟨rfl, hb2⟩)
    replace HS := hid (NS.below HS.out hb2);have hgr2 : gb < w2.heap.size := by have := hb2.size; omega
    clear hb2 r0 r1 HC;have HC := hid (HS.out.cells p (by have := HS.out.slice; obtain ⟨_, _, he⟩ := this; cases he; exact hpm));obtain ⟨r0, r1⟩ := HC.out;go_wp2_with fail;go_roundg (gk - 1);case measure => have := HK.out; omega
    case rel => exact ⟨k + 1, by have := HK.out; omega, by go_num, by rw [HRd.out]; exact HS.out.set HGb.out p _⟩
  · have HD := hid (show decs M (li.take k) = decs M li by rw [List.take_of_length_le (by rw [Hli.out]; omega)]);rw [HD.out] at HS;clear HD;have HLp1 := hid (show (decs M li).length = m by rw [decs_len]; exact HLp.out);have HBd1 := hid (show bnd (1000 + (ni : Int)) (decs M li) by have := decs_bnd li 1000 M (by omega) HBd.out; rw [Hli.out] at this; exact this);clear HLp HBd HK hle hgr HTr HZr;have HLp := hid HLp1.out;have HBd := hid HBd1.out;clear HLp1 HBd1;generalize decs M li = M1 at *;obtain ⟨go, rfl⟩ : ∃ go, go = gk := ⟨_, rfl⟩;go_wp2_with fail;go_loopg [32] (no) (fun g iv wr => ∃ k : Nat, k + g = no ∧ iv = .int .i64 k ∧ NS w0 wr (.slice (some ⟨gb, 0, none⟩) m cap) (incs M1 (lo.take k)));case atStart => exact ⟨0, by omega, rfl, by rw [List.take_zero]; exact HS.out⟩
    case round =>
     obtain ⟨k, hk, rfl, hS⟩ := hrel;have HK := hid hk;have HS := hid hS;have hle : k ≤ no := by omega
     have HZr := hid (HZo.out.below hS.2);have HTr := hid (HT.out.below hS.2);have hgr : gb < wr.heap.size := (hS.1.lt gb rfl).2;clear hk hS;obtain ⟨tc0, tc1, tc2⟩ := HTr.out;by_cases hlt : k < no
     · have hlt' : k < lo.length := by rw [Hlo.out]; exact hlt
       obtain ⟨ap, rfl, hpa, q0⟩ := HZr.out k hlt';obtain ⟨p, hp⟩ := Int.eq_ofNat_of_zero_le (HInlo.out _ (List.getElem_mem hlt')).1;have hpm : p < m := by have := (HInlo.out _ (List.getElem_mem hlt')).2; omega
       obtain ⟨hpl, hrd, hx1, hx2⟩ := incs_round M1 lo k p hlt' hp (by rw [HLp.out]; exact hpm) (1000 + ni) (by omega) HBd.out;rw [hp] at q0;have HRd := hid hrd;have HC := hid (HS.out.cells p hpl);have hMo := moreV_inc (incs M1 (lo.take k))[p];generalize (incs M1 (lo.take k))[p] = x at *;generalize incs M1 (lo.take k) = D at *;clear hrd hp hlt' hpl;obtain ⟨r0, r1⟩ := HC.out;have HMore := hid (fun w => more_any x (1) w (by omega) (by omega));rw [hMo] at HMore;clear hMo;go_wp2_with fail;((with_reducible refine (HMore.out _).mono ?_); rintro e w2 ⟨rfl, hb2⟩)
       replace HS := hid (NS.below HS.out hb2);have hgr2 : gb < w2.heap.size := by have := hb2.size; omega
       clear hb2 r0 r1 HC;have HC := hid (HS.out.cells p (by have := HS.out.slice; obtain ⟨_, _, he⟩ := this; cases he; exact hpm));obtain ⟨r0, r1⟩ := HC.out;go_wp2_with fail;go_roundg (gk - 1);case measure => have := HK.out; omega
       case rel => exact ⟨k + 1, by have := HK.out; omega, by go_num, by rw [HRd.out]; exact HS.out.set HGb.out p _⟩
     · have HD := hid (show incs M1 (lo.take k) = incs M1 lo by rw [List.take_of_length_le (by rw [Hlo.out]; omega)]);rw [HD.out] at HS;clear HD;have HFin := hid (show incs M1 lo = R from HR.out.symm);rw [HFin.out] at HS;have HLr := hid (show R.length = m by rw [← HFin.out, incs_len]; exact HLp.out);obtain ⟨Af, cf, he, hz, _, _⟩ := HS.out.zin;cases he;have HMx := hid (max_any _ R.length cap R _ hz rfl (by rw [HLr.out]; exact hm0) (by rw [HLr.out]; omega));have hbig := max_big R (by rw [HLr.out]; exact hm0);have HBig := hid hbig;clear hz hbig;go_wp2_with fail;((with_reducible refine HMx.out.mono ?_); rintro e w3 ⟨rfl, hb3⟩)
       replace HS := hid (NS.below HS.out hb3);clear hb3;go_wp2_with fail;go_ret2;rw [HBig.out];exact ⟨_, rfl, NS.up HB.out HS.out⟩
end Go.Proofs.YtkhmngljpfibcaaGreatDoor
