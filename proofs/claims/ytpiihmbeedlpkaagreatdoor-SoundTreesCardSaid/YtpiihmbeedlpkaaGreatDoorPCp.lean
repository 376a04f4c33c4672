/- petri.Enabled: what a call returns. cover.fire: what a call returns. -/
import Derived.Test.YtpiihmbeedlpkaaGreatDoorPUu
import Derived.Test.YtpiihmbeedlpkaaGreatDoorPCn
namespace Go.Proofs.YtpiihmbeedlpkaaGreatDoor
set_option maxRecDepth 100000
set_option maxHeartbeats 6400000
open Go.Lib (hid)
section
open Go.RowKit

def canAt (N : Nt) (M : List Int) (i : Nat) : Bool := match N.tr[i]? with | some t => canT t M | none => false
def enTo (N : Nt) (M : List Int) : Nat → List Int
 | 0 => []
 | k + 1 => if canAt N M k then enTo N M k ++ [(k : Int)] else enTo N M k
theorem canAt_get (N : Nt) (M : List Int) (k : Nat) (h : k < N.tr.length) : canAt N M k = canT N.tr[k] M := by unfold canAt; rw [List.getElem?_eq_getElem h]
theorem en_yes (N : Nt) (M : List Int) (k : Nat) (h : canAt N M k = true) : enTo N M (k + 1) = enTo N M k ++ [(k : Int)] := by rw [enTo, if_pos h]
theorem en_no (N : Nt) (M : List Int) (k : Nat) (h : canAt N M k = false) : enTo N M (k + 1) = enTo N M k := by rw [enTo, if_neg (by rw [h]; decide)]
theorem en_len (N : Nt) (M : List Int) (k : Nat) : (enTo N M k).length ≤ k := by
 induction k with
 | zero => simp [enTo]
 | succ k ih =>
  cases h : canAt N M k with
  | false => rw [en_no _ _ _ h]; omega
  | true => rw [en_yes _ _ _ h, List.length_append]; simp; omega
def enV (N : Nt) (M : List Int) : List Int := if mkB N M then enTo N M N.tr.length else []
def enE (N : Nt) (M : List Int) : Int := if mkB N M then 0 else 1
theorem plB_in (n : Int) (l : List Int) (hb : plB n l = true) : ∀ p ∈ l, 0 ≤ p ∧ p < n := by
 intro p hp;obtain ⟨i, hi, rfl⟩ := List.getElem_of_mem hp;exact plB_at n l i hi hb
theorem nt_in {N : Nt} (h : ntB N = true) : ∀ t ∈ N.tr, (∀ p ∈ t.i, 0 ≤ p ∧ p < N.pl) ∧ ∀ p ∈ t.o, 0 ≤ p ∧ p < N.pl := by
 intro t ht;unfold ntB at h;rw [Bool.and_eq_true, Bool.and_eq_true, List.all_eq_true] at h;have := h.2.1 t ht;unfold trB at this;rw [Bool.and_eq_true, Bool.and_eq_true] at this;exact ⟨plB_in _ _ this.2.1, plB_in _ _ this.2.2⟩
theorem nt_small {N : Nt} (h : ntB N = true) : 1 ≤ N.pl ∧ N.pl ≤ 40 ∧ N.tr.length ≤ 60 := by
 unfold ntB at h;rw [Bool.and_eq_true] at h;exact of_decide_eq_true h.1
theorem mk_nt {N : Nt} {M : List Int} (h : mkB N M = true) : ntB N = true := by unfold mkB at h; rw [Bool.and_eq_true] at h; exact h.1
theorem mk_len {N : Nt} {M : List Int} (h : mkB N M = true) : (M.length : Int) = N.pl := by
 unfold mkB at h; rw [Bool.and_eq_true, Bool.and_eq_true] at h; exact of_decide_eq_true h.2.1
theorem mk_nums {N : Nt} {M : List Int} (h : mkB N M = true) : ∀ x ∈ M, 0 ≤ x ∧ x ≤ 100 := by
 unfold mkB at h; rw [Bool.and_eq_true, Bool.and_eq_true] at h;intro x hx;have h2 : M.any badK = false := by simpa using h.2.2
 rw [List.any_eq_false] at h2;have := h2 x hx;unfold badK at this;simp at this;omega
theorem nt_inM {N : Nt} (h : ntB N = true) {m : Nat} (hm : (m : Int) = N.pl) : ∀ t ∈ N.tr, inM t.i m ∧ inM t.o m := by
 intro t ht;have := nt_in h t ht;unfold inM;rw [hm]; exact this
def ZPost (L : List Int) (k : Int) (w : World) (e : Ending) (w' : World) : Prop := ∃ v, e = .returned (.tuple #[v, .int .i64 k]) ∧ NS w w' v L
theorem ZPost.none {L : List Int} {k : Int} {w w' : World} {e : Ending} (hL : L = []) (he : e = .returned (.tuple #[.slice none 0 0, .int .i64 k])) (hb : Below w.heap.size w w') : ZPost L k w e w' := by
 subst hL; exact ⟨_, he, NS.start hb⟩
theorem penabled_any (N : Nt) (A : Option Addr) (n c : Nat) (Am : Option Addr) (m cm : Nat) (M : List Int) (w : World) (h : NtIn w A N) (hn : N.tr.length = n) (hn2 : n ≤ 9223372036854775807) (hM : ZIn w Am M) (hm : M.length = m) (hm2 : m ≤ 9223372036854775807) :
 Calls Tryz.prog 62 #[.agg #[.int .i64 N.pl, .slice A n c, .int .i64 N.src, .int .i64 N.snk], .slice Am m cm] w (ZPost (enV N M) (enE N M) w) := by
 have HB := hid (below_alloc w (.cells #[.int .i64 N.pl, .slice A n c, .int .i64 N.src, .int .i64 N.snk] 30));have HN := hid (NB.new w N.pl A n c N.src N.snk);have HV := hid (pmarking_any N A n c Am m cm M (w.alloc (.cells #[.int .i64 N.pl, .slice A n c, .int .i64 N.src, .int .i64 N.snk] 30)) (h.below HB.out) hn hn2 (hM.below HB.out) hm hm2);have HIn := hid (h.below HB.out);have HMm := hid (hM.below HB.out);have HLn := hid hn;have HLm := hid hm;have HR := hid (show enV N M = if mkB N M then enTo N M N.tr.length else [] from rfl);have HE := hid (show enE N M = if mkB N M then 0 else 1 from rfl);have HMk := hid (fun (hv : mkB N M = true) => And.intro (nt_small (mk_nt hv)) (nt_inM (mk_nt hv) (m := m) (by rw [← hm]; exact mk_len hv)));generalize enV N M = R at *;generalize enE N M = er at *;clear h hn hM hm;obtain ⟨i0, hi, hz0, hz1, hz2⟩ := info_parts intInfo;have HI := hid (And.intro hi (And.intro hz0 (And.intro hz1 hz2)));clear hi hz0 hz1 hz2;go_enter Tryz.func62, Tryz.ntmps62;go_wp2_with fail;generalize w.alloc _ = w0 at *;obtain ⟨b0, b1, b2, b3⟩ := HN.out.cells;((with_reducible refine HV.out.mono ?_); rintro e w1 ⟨rfl, hb1⟩)
 have HB1 := hid (below_then HB.out hb1);have HN1 := hid (HN.out.below hb1);have HIn1 := hid (HIn.out.below hb1);have HM1 := hid (HMm.out.below hb1);clear hb1 HV HN HIn HMm HB b0 b1 b2 b3;cases hv : mkB N M with
 | false =>
  rw [hv] at HR HE;go_wp2_with fail;go_ret2;exact ZPost.none HR.out (by rw [HE.out]; rfl) HB1.out
 | true =>
  rw [hv] at HR HE;obtain ⟨⟨hs1, hs2, hs3⟩, hin⟩ := HMk.out hv;have HInM := hid hin;clear hv hin HMk;have hn60 : n ≤ 60 := by rw [← HLn.out]; exact hs3
  obtain ⟨b0, b1, b2, b3⟩ := HN1.out.cells;have HS0 := hid (NS.start (Below.refl w1.heap.size w1));go_wp2_with fail;go_loopg [16, 6] (n) (fun g iv lv wr => ∃ k : Nat, k + g = n ∧ iv = .int .i64 k ∧ NS w1 wr lv (enTo N M k));case atStart => exact ⟨0, by omega, rfl, HS0.out⟩
  case round =>
   obtain ⟨k, hk, rfl, hS⟩ := hrel;have hB := hS.2;have HK := hid hk;have HS := hid hS;have hle : k ≤ n := by omega
   have hen := en_len N M k;obtain ⟨A1, c1, rfl⟩ := hS.slice;have HInr := hid (HIn1.out.below hB);have HMr := hid (HM1.out.below hB);clear hk hS hB;by_cases hlt : k < n
   · have hlt' : k < N.tr.length := by rw [HLn.out]; exact hlt
     obtain ⟨ad, rfl, hpa, t0, ⟨u1, t1, s1⟩, u2, t2, s2⟩ := HInr.out.1 k hlt';have HCa := hid (canAt_get N M k hlt');have HY := hid (en_yes N M k);have HNo := hid (en_no N M k);have HInK := hid (HInM.out _ (List.getElem_mem hlt'));generalize N.tr[k] = T at *;obtain ⟨lb, li, lo⟩ := T;simp only at t0 t1 s1 t2 s2 HInK;obtain ⟨Ai, ni, ci, rfl, zi, hi1, hi2, hi3⟩ := s1;obtain ⟨Ao, no, co, rfl, zo, ho1, ho2, ho3⟩ := s2;generalize canAt N M k = cb at HCa HY HNo;generalize enTo N M k = L at *;have HA := hid (below_alloc wr (.cells #[.string lb, .slice Ai ni ci, .slice Ao no co] 42));have HC := hid (enabled_petri lb Ai Ao Am ni ci no co m cm li lo M _ (zi.below HA.out) hi1 (by omega) (HMr.out.below HA.out) HLm.out HInK.out.1);rw [← HCa.out] at HC;replace HS := hid (NS.below HS.out HA.out);clear zi zo hi1 hi2 hi3 ho1 ho2 ho3 HCa hlt';cases cb with
     | false =>
      have HX := hid (HNo.out rfl);clear HY HNo;go_wp2_with fail;((with_reducible refine HC.out.mono ?_); rintro e w2 ⟨rfl, hb2⟩)
      replace HS := hid (NS.below HS.out hb2);clear hb2 HC HA;go_wp2_with fail;go_roundg (gk - 1);case measure => have := HK.out; omega
      case rel => exact ⟨k + 1, by have := HK.out; omega, by go_num, by rw [HX.out]; exact HS.out⟩
     | true =>
      have HX := hid (HY.out rfl);clear HY HNo;go_wp2_with fail;((with_reducible refine HC.out.mono ?_); rintro e w2 ⟨rfl, hb2⟩)
      replace HS := hid (NS.below HS.out hb2);clear hb2 HC HA;go_wp2_with (at_builtin; refine wpList_append_own _ rfl _ _ 34 rfl w1.heap.size 3 i0 (.int .i64 0) 1 8 Tryz.underlying34 HI.out.1 HI.out.2.1 HI.out.2.2.1 HI.out.2.2.2 rfl (by decide) (.slice A1 L.length c1) _ _ rfl (HS.out.1.alloc _) ⟨w2.heap.size, 0, none⟩ 1 1 [.int .i64 k] rfl rfl ?c1 ?c2 ?c3 ?c4 ?c5 ?_);case c1 => intro j u hj; match j, hj with | 0, hj => simp at hj; subst hj; simp [Addr.add] | j + 1, hj => simp at hj
      case c2 => intro u hu; simp at hu; subst hu; rfl
      case c3 => unfold maxLen; omega
      case c4 => omega
      case c5 => have := HS.out.size; simp; omega
      intro v' w4 hown4 hgrow4 _;replace HS := hid (HS.out.push hown4 hgrow4);clear hown4 hgrow4;go_wp2_with fail;go_roundg (gk - 1);case measure => have := HK.out; omega
      case rel => exact ⟨k + 1, by have := HK.out; omega, by go_num, by rw [HX.out]; exact HS.out⟩
   · have HX := hid (show enTo N M k = R by rw [HR.out, if_pos trivial, HLn.out, show k = n by have := HK.out; omega]);go_wp2_with fail;go_ret2;rw [← HX.out, HE.out];exact ⟨_, rfl, NS.up HB1.out HS.out⟩
end
section
open Go.RowKit

def bnd (B : Int) (m : List Int) : Prop := ∀ x ∈ m, -B ≤ x ∧ x ≤ B
theorem bnd_set {B : Int} {m : List Int} (h : bnd B m) (p : Nat) (x : Int) (hx : -(B + 1) ≤ x ∧ x ≤ B + 1) : bnd (B + 1) (m.set p x) := by
 intro y hy;rcases List.mem_or_eq_of_mem_set hy with h1 | h1
 · have := h y h1; omega
 · subst h1; exact hx
theorem bnd_get {B : Int} {m : List Int} (h : bnd B m) (h0 : 0 ≤ B) (p : Nat) : -B ≤ m.getD p 0 ∧ m.getD p 0 ≤ B := by
 by_cases hp : p < m.length
 · have := h _ (List.getElem_mem hp); simpa [hp] using this
 · rw [List.getD_eq_getElem?_getD, List.getElem?_eq_none (by omega)]; simp; omega
theorem dec1_bnd (x : Int) : x - 1 ≤ dec1 x ∧ dec1 x ≤ x := by unfold dec1; split <;> omega
theorem inc1_bnd (x : Int) : x ≤ inc1 x ∧ inc1 x ≤ x + 1 := by unfold inc1; split <;> omega
theorem decs_bnd (l : List Int) : ∀ (B : Int) (m : List Int), 0 ≤ B → bnd B m → bnd (B + l.length) (decs m l) := by
 induction l with
 | nil => intro B m _ h; simpa [decs] using h
 | cons p l ih =>
  intro B m h0 h;have h1 := bnd_get h h0 p.toNat;have h2 := dec1_bnd (m.getD p.toNat 0);have := ih (B + 1) (m.set p.toNat (dec1 (m.getD p.toNat 0))) (by omega) (bnd_set h _ _ (by omega));rw [List.length_cons, show B + ((l.length + 1 : Nat) : Int) = B + 1 + l.length by omega];exact this
theorem incs_bnd (l : List Int) : ∀ (B : Int) (m : List Int), 0 ≤ B → bnd B m → bnd (B + l.length) (incs m l) := by
 induction l with
 | nil => intro B m _ h; simpa [incs] using h
 | cons p l ih =>
  intro B m h0 h;have h1 := bnd_get h h0 p.toNat;have h2 := inc1_bnd (m.getD p.toNat 0);have := ih (B + 1) (m.set p.toNat (inc1 (m.getD p.toNat 0))) (by omega) (bnd_set h _ _ (by omega));rw [List.length_cons, show B + ((l.length + 1 : Nat) : Int) = B + 1 + l.length by omega];exact this
theorem decs_round (M l : List Int) (k p : Nat) (hk : k < l.length) (hp : l[k] = (p : Int)) (hpm : p < M.length) (B : Int) (h0 : 0 ≤ B) (hM : bnd B M) :
 ∃ h : p < (decs M (l.take k)).length, decs M (l.take (k + 1)) = (decs M (l.take k)).set p (dec1 (decs M (l.take k))[p]) ∧ -(B + k) ≤ (decs M (l.take k))[p] ∧ (decs M (l.take k))[p] ≤ B + k := by
 have hlen : (decs M (l.take k)).length = M.length := decs_len _ _;have hb := decs_bnd (l.take k) B M h0 hM;rw [List.length_take, Nat.min_eq_left (by omega)] at hb;have h1 : p < (decs M (l.take k)).length := by omega
 refine ⟨h1, ?_, hb _ (List.getElem_mem h1)⟩;rw [decs_snoc M l k hk, hp]; simp [h1]
theorem incs_round (M l : List Int) (k p : Nat) (hk : k < l.length) (hp : l[k] = (p : Int)) (hpm : p < M.length) (B : Int) (h0 : 0 ≤ B) (hM : bnd B M) :
 ∃ h : p < (incs M (l.take k)).length, incs M (l.take (k + 1)) = (incs M (l.take k)).set p (inc1 (incs M (l.take k))[p]) ∧ -(B + k) ≤ (incs M (l.take k))[p] ∧ (incs M (l.take k))[p] ≤ B + k := by
 have hlen : (incs M (l.take k)).length = M.length := incs_len _ _;have hb := incs_bnd (l.take k) B M h0 hM;rw [List.length_take, Nat.min_eq_left (by omega)] at hb;have h1 : p < (incs M (l.take k)).length := by omega
 refine ⟨h1, ?_, hb _ (List.getElem_mem h1)⟩;rw [incs_snoc M l k hk, hp]; simp [h1]
theorem foldl_max_le (l : List Int) : ∀ a c : Int, l.foldl max a ≤ c ↔ a ≤ c ∧ ∀ x ∈ l, x ≤ c := by
 induction l with
 | nil => intro a c; simp
 | cons b l ih => intro a c; rw [List.foldl_cons, ih, Int.max_le]; simp [and_assoc]
theorem max_big (m : List Int) (h : 0 < m.length) : decide (Lib.maxOf m ≤ 100) = !bigM m := by
 cases m with
 | nil => simp at h
 | cons a l =>
  have : Lib.maxOf (a :: l) = l.foldl max a := by unfold Lib.maxOf; rw [List.foldl_cons, List.headD_cons, Int.max_self]
  rw [this, Bool.eq_iff_iff, decide_eq_true_eq, foldl_max_le];unfold bigM;simp
def FPo (L : List Int) (b : Bool) (w : World) (e : Ending) (w' : World) : Prop := ∃ v, e = .returned (.tuple #[v, .bool b]) ∧ NS w w' v L
def TB (w : World) (b : Nat) (lb : ByteArray) (Ai : Option Addr) (ni ci : Nat) (Ao : Option Addr) (no co : Nat) : Prop := w.cell? ⟨b, 0, none⟩ = some (.string lb) ∧ w.cell? ⟨b, 1, none⟩ = some (.slice Ai ni ci) ∧ w.cell? ⟨b, 2, none⟩ = some (.slice Ao no co)
theorem TB.new (w : World) (lb : ByteArray) (Ai : Option Addr) (ni ci : Nat) (Ao : Option Addr) (no co : Nat) : TB (w.alloc (.cells #[.string lb, .slice Ai ni ci, .slice Ao no co] 42)) w.heap.size lb Ai ni ci Ao no co := by
 have h := heap_alloc_new w (.cells #[.string lb, .slice Ai ni ci, .slice Ao no co] 42);refine ⟨?_, ?_, ?_⟩ <;> (unfold World.cell?; rw [h]; rfl)
theorem TB.below {w w' : World} {b : Nat} {lb : ByteArray} {Ai : Option Addr} {ni ci : Nat} {Ao : Option Addr} {no co : Nat} (h : TB w b lb Ai ni ci Ao no co) (hb : Below w.heap.size w w') : TB w' b lb Ai ni ci Ao no co :=
 ⟨cell_stays hb h.1, cell_stays hb h.2.1, cell_stays hb h.2.2⟩
theorem cfire_any (lb : ByteArray) (Ai Ao Am : Option Addr) (ni ci no co m cm : Nat) (li lo M : List Int) (w : World) (hi : ZIn w Ai li) (hni : li.length = ni) (hni2 : ni ≤ 1000) (ho : ZIn w Ao lo) (hno : lo.length = no) (hno2 : no ≤ 1000) (hM : ZIn w Am M) (hm : M.length = m) (hm0 : 0 < m) (hm2 : m ≤ 1000000) (hin : inM li m) (hon : inM lo m) (hbd : bnd 1000 M) :
 Calls Tryz.prog 79 #[.agg #[.string lb, .slice Ai ni ci, .slice Ao no co], .slice Am m cm] w (FPo (fireT ⟨lb, li, lo⟩ M) (!bigM (fireT ⟨lb, li, lo⟩ M)) w) := by
 have HB := hid (below_alloc w (.cells #[.string lb, .slice Ai ni ci, .slice Ao no co] 42));have HT0 := hid (TB.new w lb Ai ni ci Ao no co);have HCl := hid (clone_any Am m cm M _ (hM.below HB.out) hm (by omega));have HZi0 := hid (hi.below HB.out);have HZo0 := hid (ho.below HB.out);have HR := hid (show fireT ⟨lb, li, lo⟩ M = incs (decs M li) lo from rfl);generalize fireT ⟨lb, li, lo⟩ M = R at *;have Hli := hid hni;have Hlo := hid hno;have HInli := hid hin;have HInlo := hid hon;have HLp := hid hm;have HBd := hid hbd;clear hi ho hM hin hon hni hno hbd hm;go_enter Tryz.func79, Tryz.ntmps79;go_wp2_with fail;generalize w.alloc _ = w0 at *;((with_reducible refine HCl.out.mono ?_); rintro e w1 ⟨v, rfl, hS1⟩)
 obtain ⟨gb, cap, rfl, hgb, hgl⟩ := hS1.row (by rw [HLp.out]; exact hm0);rw [HLp.out] at hS1 ⊢;have HGb := hid hgb;have HGl := hid hgl;have HS1 := hid hS1;have HT := hid HT0.out;have HT1 := hid (HT0.out.below hS1.2);have HZi := hid HZi0.out;have HZo := hid HZo0.out;clear hS1 HCl HT0 HZi0 HZo0 hgb hgl;obtain ⟨tc0, tc1, tc2⟩ := HT1.out;go_wp2_with fail;clear HT1;go_loopg [16] (ni) (fun g iv wr => ∃ k : Nat, k + g = ni ∧ iv = .int .i64 k ∧ NS w0 wr (.slice (some ⟨gb, 0, none⟩) m cap) (decs M (li.take k)));case atStart => exact ⟨0, by omega, rfl, by rw [List.take_zero]; exact HS1.out⟩
 case round =>
  obtain ⟨k, hk, rfl, hS⟩ := hrel;have HK := hid hk;have HS := hid hS;have hle : k ≤ ni := by omega
  have HZr := hid (HZi.out.below hS.2);have HTr := hid (HT.out.below hS.2);have hgr : gb < wr.heap.size := (hS.1.lt gb rfl).2;clear hk hS;obtain ⟨tc0, tc1, tc2⟩ := HTr.out;by_cases hlt : k < ni
  · have hlt' : k < li.length := by rw [Hli.out]; exact hlt
    obtain ⟨ap, rfl, hpa, q0⟩ := HZr.out k hlt';obtain ⟨p, hp⟩ := Int.eq_ofNat_of_zero_le (HInli.out _ (List.getElem_mem hlt')).1;have hpm : p < m := by have := (HInli.out _ (List.getElem_mem hlt')).2; omega
    obtain ⟨hpl, hrd, hx1, hx2⟩ := decs_round M li k p hlt' hp (by rw [HLp.out]; exact hpm) 1000 (by omega) HBd.out;rw [hp] at q0;have HRd := hid hrd;have HC := hid (HS.out.cells p hpl);have hMo := moreV_dec (decs M (li.take k))[p];generalize (decs M (li.take k))[p] = x at *;generalize decs M (li.take k) = D at *;clear hrd hp hlt' hpl;obtain ⟨r0, r1⟩ := HC.out;have HMore := hid (fun w => more_any x (-1) w (by omega) (by omega));rw [hMo] at HMore;clear hMo;go_wp2_with fail;((with_reducible refine (HMore.out _).mono ?_); rintro e w2 ⟨rfl, hb2⟩)
    replace HS := hid (NS.below HS.out hb2);have hgr2 : gb < w2.heap.size := by have := hb2.size; omega
    clear hb2 r0 r1 HC;have HC := hid (HS.out.cells p (by have := HS.out.slice; obtain ⟨_, _, he⟩ := this; cases he; exact hpm));obtain ⟨r0, r1⟩ := HC.out;go_wp2_with fail;go_roundg (gk - 1);case measure => have := HK.out; omega
    case rel => exact ⟨k + 1, by have := HK.out; omega, by go_num, by rw [HRd.out]; exact HS.out.set HGb.out p _⟩
  · have HD := hid (show decs M (li.take k) = decs M li by rw [List.take_of_length_le (by rw [Hli.out]; omega)]);rw [HD.out] at HS;clear HD;have HLp1 := hid (show (decs M li).length = m by rw [decs_len]; exact HLp.out);have HBd1 := hid (show bnd (1000 + (ni : Int)) (decs M li) by have := decs_bnd li 1000 M (by omega) HBd.out; rw [Hli.out] at this; exact this);clear HLp HBd HK hle hgr HTr HZr;have HLp := hid HLp1.out;have HBd := hid HBd1.out;clear HLp1 HBd1;generalize decs M li = M1 at *;obtain ⟨go, rfl⟩ : ∃ go, go = gk := ⟨_, rfl⟩;go_wp2_with fail;go_loopg [32] (no) (fun g iv wr => ∃ k : Nat, k + g = no ∧ iv = .int .i64 k ∧ NS w0 wr (.slice (some ⟨gb, 0, none⟩) m cap) (incs M1 (lo.take k)));case atStart => exact ⟨0, by omega, rfl, by rw [List.take_zero]; exact HS.out⟩
    case round =>
     obtain ⟨k, hk, rfl, hS⟩ := hrel;have HK := hid hk;have HS := hid hS;have hle : k ≤ no := by omega
     have HZr := hid (HZo.out.below hS.2);have HTr := hid (HT.out.below hS.2);have hgr : gb < wr.heap.size := (hS.1.lt gb rfl).2;clear hk hS;obtain ⟨tc0, tc1, tc2⟩ := HTr.out;by_cases hlt : k < no
     · have hlt' : k < lo.length := by rw [Hlo.out]; exact hlt
       obtain ⟨ap, rfl, hpa, q0⟩ := HZr.out k hlt';obtain ⟨p, hp⟩ := Int.eq_ofNat_of_zero_le (HInlo.out _ (List.getElem_mem hlt')).1;have hpm : p < m := by have := (HInlo.out _ (List.getElem_mem hlt')).2; omega
       obtain ⟨hpl, hrd, hx1, hx2⟩ := incs_round M1 lo k p hlt' hp (by rw [HLp.out]; exact hpm) (1000 + ni) (by omega) HBd.out;rw [hp] at q0;have HRd := hid hrd;have HC := hid (HS.out.cells p hpl);have hMo := moreV_inc (incs M1 (lo.take k))[p];generalize (incs M1 (lo.take k))[p] = x at *;generalize incs M1 (lo.take k) = D at *;clear hrd hp hlt' hpl;obtain ⟨r0, r1⟩ := HC.out;have HMore := hid (fun w => more_any x (1) w (by omega) (by omega));rw [hMo] at HMore;clear hMo;go_wp2_with fail;((with_reducible refine (HMore.out _).mono ?_); rintro e w2 ⟨rfl, hb2⟩)
       replace HS := hid (NS.below HS.out hb2);have hgr2 : gb < w2.heap.size := by have := hb2.size; omega
       clear hb2 r0 r1 HC;have HC := hid (HS.out.cells p (by have := HS.out.slice; obtain ⟨_, _, he⟩ := this; cases he; exact hpm));obtain ⟨r0, r1⟩ := HC.out;go_wp2_with fail;go_roundg (gk - 1);case measure => have := HK.out; omega
       case rel => exact ⟨k + 1, by have := HK.out; omega, by go_num, by rw [HRd.out]; exact HS.out.set HGb.out p _⟩
     · have HD := hid (show incs M1 (lo.take k) = incs M1 lo by rw [List.take_of_length_le (by rw [Hlo.out]; omega)]);rw [HD.out] at HS;clear HD;have HFin := hid (show incs M1 lo = R from HR.out.symm);rw [HFin.out] at HS;have HLr := hid (show R.length = m by rw [← HFin.out, incs_len]; exact HLp.out);obtain ⟨Af, cf, he, hz, _, _⟩ := HS.out.zin;cases he;have HMx := hid (max_any _ R.length cap R _ hz rfl (by rw [HLr.out]; exact hm0) (by rw [HLr.out]; omega));have hbig := max_big R (by rw [HLr.out]; exact hm0);have HBig := hid hbig;clear hz hbig;go_wp2_with fail;((with_reducible refine HMx.out.mono ?_); rintro e w3 ⟨rfl, hb3⟩)
       replace HS := hid (NS.below HS.out hb3);clear hb3;go_wp2_with fail;go_ret2;rw [HBig.out];exact ⟨_, rfl, NS.up HB.out HS.out⟩
end
end Go.Proofs.YtpiihmbeedlpkaaGreatDoor
