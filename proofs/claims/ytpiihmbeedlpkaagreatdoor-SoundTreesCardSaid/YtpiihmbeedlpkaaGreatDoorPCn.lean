/- more, below, Less, AtMost, Same: what a call returns. Rows of numbers of one's own: grown, copied, set. -/
import Derived.Test.YtpiihmbeedlpkaaGreatDoorPUu
import Derived.Test.YtpiihmbeedlpkaaGreatDoorPCk
import Derived.Test.YtpiihmbeedlpkaaGreatDoorShelfL
namespace Go.Proofs.YtpiihmbeedlpkaaGreatDoor
set_option maxRecDepth 100000
set_option maxHeartbeats 3200000
open Go.Lib (hid)
section
open Go.RowKit

theorem less_parts (a b : Int) : (b = -1 ∧ lessE a b = true) ∨ ((b ≠ -1 ∧ a = -1) ∧ lessE a b = false) ∨ ((b ≠ -1 ∧ a ≠ -1 ∧ b < a) ∧ lessE a b = false) ∨ ((b ≠ -1 ∧ a ≠ -1 ∧ a ≤ b) ∧ lessE a b = true) := by
 unfold lessE;by_cases h1 : b = -1
 · exact .inl ⟨h1, by rw [decide_eq_true h1]; rfl⟩
 by_cases h2 : a = -1
 · exact .inr (.inl ⟨⟨h1, h2⟩, by rw [decide_eq_false h1, decide_eq_false (by omega)]; rfl⟩)
 by_cases h3 : b < a
 · exact .inr (.inr (.inl ⟨⟨h1, h2, h3⟩, by rw [decide_eq_false h1, decide_eq_false (show ¬ a ≤ b by omega), Bool.and_false]; rfl⟩))
 · exact .inr (.inr (.inr ⟨⟨h1, h2, by omega⟩, by rw [decide_eq_true (show a ≤ b by omega), decide_eq_true h2, Bool.and_true, Bool.or_true]⟩))
theorem atM_get {x y : List Int} {k : Nat} (h1 : k < x.length) (h2 : k < y.length) : atM x y k = lessE x[k] y[k] := by unfold atM; simp [h1, h2]
def moreV (x b : Int) : Int := if x = -1 then -1 else x + b
theorem moreV_dec (x : Int) : moreV x (-1) = dec1 x := rfl
theorem moreV_inc (x : Int) : moreV x 1 = inc1 x := rfl
theorem more_any (x b : Int) (w : World) (hx : -1000000000000 ≤ x ∧ x ≤ 1000000000000) (hb : -10 ≤ b ∧ b ≤ 10) : Calls Tryz.prog 91 #[.int .i64 x, .int .i64 b] w fun e w' => e = .returned (.int .i64 (moreV x b)) ∧ Below w.heap.size w w' := by
 by_cases h : x = -1
 · subst h;go_enter Tryz.func91, Tryz.ntmps91;go_wp2_with fail;go_ret;exact ⟨rfl, Below.refl _ _⟩
 · have q1 : (x == -1) = false := by rw [beq_eq_false_iff_ne]; exact h
   have HV := hid (show moreV x b = x + b from if_neg h);clear h;go_enter Tryz.func91, Tryz.ntmps91;go_wp2_with fail;go_ret;exact ⟨ret_int HV.out.symm, Below.refl _ _⟩
theorem below_any (Ax : Option Addr) (n cx : Nat) (Ay : Option Addr) (m cy : Nat) (X Y : List Int) (w : World) (hX : ZIn w Ax X) (hn : X.length = n) (hY : ZIn w Ay Y) (hm : Y.length = m) (hnm : n ≤ m) (hmb : m ≤ 9223372036854775807) :
 Calls Tryz.prog 80 #[.slice Ax n cx, .slice Ay m cy] w fun e w' => e = .returned (.bool (atMost X Y)) ∧ Below w.heap.size w w' := by
 have HX := hid hX;have HY := hid hY;have HN := hid hn;have HM := hid hm;clear hX hY hn hm;go_enter Tryz.func80, Tryz.ntmps80;go_wp2_with fail;go_loopg [8] (n) (fun g iv wr => ∃ k : Nat, k + g = n ∧ iv = .int .i64 k ∧ atMTo X Y k = true ∧ Below w.heap.size w wr);case atStart => exact ⟨0, by omega, rfl, rfl, Below.refl _ _⟩
 case round =>
  obtain ⟨k, hk, rfl, hp, hB⟩ := hrel;have HB := hid hB;have HXr := hid (HX.out.below hB);have HYr := hid (HY.out.below hB);have HK := hid hk;have HP := hid hp;have hle : k ≤ n := by omega
  clear hk hp hB;by_cases hlt : k < n
  · have h1 : k < X.length := by rw [HN.out]; exact hlt
    have h2 : k < Y.length := by rw [HM.out]; omega
    have hlt2 : k < m := by omega
    obtain ⟨ad, rfl, hpa, q0⟩ := HXr.out k h1;obtain ⟨ae, rfl, hpb, q5⟩ := HYr.out k h2;have HNo := hid (atMost_no X Y k h1);have HSu := hid (atMTo_succ X Y k);rw [atM_get h1 h2] at HNo HSu;generalize X[k] = x at *;generalize Y[k] = y at *;clear h1 h2;rcases less_parts x y with ⟨h, hv⟩ | ⟨⟨h, h2⟩, hv⟩ | ⟨⟨h, h2, h3⟩, hv⟩ | ⟨⟨h, h2, h3⟩, hv⟩
    · have q1 : (y != -1) = false := by rw [h]; rfl
      rw [hv, HP.out] at HSu;clear h hv HNo;go_wp2_with fail;go_quiet (fail);go_wp2_with fail;go_roundg (gk - 1);case measure => have := HK.out; omega
      case rel => exact ⟨k + 1, by have := HK.out; omega, by go_num, HSu.out, below_then HB.out (below_drewN _ _)⟩
    · have q1 : (y != -1) = true := by simpa using h
      have q2 : (x == -1) = true := by rw [h2]; rfl
      have HV := hid (HNo.out hv);clear h h2 hv HSu HNo;go_wp2_with fail;go_quiet (fail);go_wp2_with fail;go_ret;exact ⟨ret_bool HV.out.symm, below_then HB.out (below_drewN _ _)⟩
    · have q1 : (y != -1) = true := by simpa using h
      have q2 : (x == -1) = false := by rw [beq_eq_false_iff_ne]; exact h2
      have HV := hid (HNo.out hv);clear h h2 hv HSu HNo;go_wp2_with fail;go_quiet (fail);go_wp2_with fail;go_ret;exact ⟨ret_bool HV.out.symm, below_then HB.out (below_drewN _ _)⟩
    · have q1 : (y != -1) = true := by simpa using h
      have q2 : (x == -1) = false := by rw [beq_eq_false_iff_ne]; exact h2
      have q3 : decide (y < x) = false := by simpa using h3
      rw [hv, HP.out] at HSu;clear h h2 h3 hv HNo;go_wp2_with fail;go_quiet (fail);go_wp2_with fail;go_roundg (gk - 1);case measure => have := HK.out; omega
      case rel => exact ⟨k + 1, by have := HK.out; omega, by go_num, HSu.out, below_then HB.out (below_drewN _ _)⟩
  · have HV := hid (show atMost X Y = true by
     have := HP.out;unfold atMost;rwa [show k = X.length by rw [HN.out]; omega] at this)
    go_wp2_with fail;go_ret;exact ⟨ret_bool HV.out.symm, HB.out⟩
end
section
open Go.RowKit

theorem intInfo : (Tryz.prog.info? 3).map (fun i => (i.zero, i.size, i.bytes)) = some (some (.int .i64 0), 1, 8) := by kernel_rfl
def NS (w wr : World) (v : Value) (L : List Int) : Prop := wr.ownsRow w.heap.size 3 1 v L.length (L.map (Value.int .i64)) ∧ Below w.heap.size w wr
theorem NS.start {w wr : World} (hb : Below w.heap.size w wr) : NS w wr (.slice none 0 0) [] := ⟨World.ownsRow_nil _ _ _ _, hb⟩
theorem NS.below {w wr w' : World} {v : Value} {L : List Int} (h : NS w wr v L) (hb : Below wr.heap.size wr w') : NS w w' v L := ⟨own_stays h.1 hb, below_then h.2 hb⟩
theorem NS.size {w wr : World} {v : Value} {L : List Int} (h : NS w wr v L) : w.heap.size ≤ wr.heap.size := h.2.size
theorem NS.push {w wr w' : World} {v v' : Value} {L : List Int} {x : Int} {o : Obj} (h : NS w wr v L) (ho : w'.ownsRow w.heap.size 3 1 v' (L.length + 1) (L.map (Value.int .i64) ++ [.int .i64 x])) (hg : (wr.alloc o).grownBy w' v.ownBlock) : NS w w' v' (L ++ [x]) := by
 have hsz := h.size;refine ⟨by rw [List.length_append, List.map_append]; exact ho, (h.2.alloc hsz o).grown hg (by simp; omega) (fun k hk => (h.1.lt k hk).1)⟩
theorem NS.slice {w wr : World} {v : Value} {L : List Int} (h : NS w wr v L) : ∃ A cap, v = .slice A L.length cap := by
 rcases h.1.2 with ⟨rfl, h0⟩ | ⟨g, cap, cur, rfl, _⟩
 · exact ⟨none, 0, by rw [h0]⟩
 · exact ⟨_, cap, rfl⟩
theorem NS.zin {w wr : World} {v : Value} {L : List Int} (h : NS w wr v L) : ∃ A cap, v = .slice A L.length cap ∧ ZIn wr A L ∧ L.length ≤ cap ∧ cap ≤ 9223372036854775807 := by
 obtain ⟨A, cap, h1, h2, _, h4, h5, _⟩ := own_ints h.1;exact ⟨A, cap, h1, h2, h4, h5⟩
theorem NS.sl {w wr : World} {v : Value} {L : List Int} (h : NS w wr v L) : SlIn wr v L := by
 obtain ⟨A, cap, h1, h2, h4, h5⟩ := h.zin;exact ⟨A, _, cap, h1, h2, rfl, h4, h5⟩
theorem NS.row {w wr : World} {v : Value} {L : List Int} (h : NS w wr v L) (h0 : 0 < L.length) : ∃ g cap, v = .slice (some ⟨g, 0, none⟩) L.length cap ∧ w.heap.size ≤ g ∧ g < wr.heap.size := by
 obtain ⟨A, cap, h1, _, _, _, _, h6⟩ := own_ints h.1;obtain ⟨g, rfl, h7, h8, _⟩ := h6 h0;exact ⟨g, cap, h1, h7, h8⟩
theorem NS.cells {w wr : World} {g n cap : Nat} {L : List Int} (h : NS w wr (.slice (some ⟨g, 0, none⟩) n cap) L) (j : Nat) (hj : j < L.length) :
 wr.cell? ⟨g, j, none⟩ = some (.int .i64 L[j]) ∧ wr.frozen? ⟨g, j, none⟩ = false := by
 obtain ⟨A, cap', he⟩ := h.slice;cases he;refine ⟨?_, h.1.frozenAt j⟩;rw [h.1.cellAt j (by omega)]; simp [hj]
theorem NS.set {w wr : World} {g n cap : Nat} {L : List Int} (h : NS w wr (.slice (some ⟨g, 0, none⟩) n cap) L) (hg : w.heap.size ≤ g) (j : Nat) (x : Int) :
 NS w (wr.setCell ⟨g, j, none⟩ (.int .i64 x)) (.slice (some ⟨g, 0, none⟩) n cap) (L.set j x) := by
 obtain ⟨A, cap', he⟩ := h.slice;cases he;have hs := h.1.stored j (.int .i64 x);refine ⟨by rw [List.length_set, List.map_set]; exact hs.1, h.2.grown hs.2 h.2.size (fun k hk => by cases hk; exact hg)⟩
theorem NS.up {w w2 wr : World} {v : Value} {L : List Int} (hb : Below w.heap.size w w2) (h : NS w2 wr v L) : NS w wr v L := by
 refine ⟨⟨h.1.1, ?_⟩, below_then hb h.2⟩;rcases h.1.2 with hn | ⟨g, cap, cur, h1, h2, h3⟩
 · exact .inl hn
 · exact .inr ⟨g, cap, cur, h1, by have := hb.size; omega, h3⟩
theorem zin_plain {w : World} {A : Option Addr} {Z : List Int} (h : ZIn w A Z) (h0 : 0 < Z.length) : ∃ b off, A = some ⟨b, off, none⟩ ∧ b < w.heap.size ∧ ∀ j, j < Z.length → w.cell? ⟨b, off + j, none⟩ = some (.int .i64 (Z.getD j 0)) := by
 obtain ⟨⟨b, off, sp⟩, rfl, h1, h2⟩ := h 0 h0;have hsp : sp = none := by
  cases sp with
  | none => rfl
  | some s =>
   have : (⟨b, off, some s⟩ : Addr).add 0 = ⟨b, off, some s⟩ := rfl;rw [this] at h2;unfold World.cell? at h2;split at h2 <;> simp at h2
 subst hsp;refine ⟨b, off, rfl, by rw [add_block] at h1; exact h1, fun j hj => ?_⟩;obtain ⟨ad, e, _, hc⟩ := h j hj;cases e;have ha : (⟨b, off, none⟩ : Addr).add j = ⟨b, off + j, none⟩ := by unfold Addr.add; split <;> simp_all
 rw [← ha, hc]; simp [hj]
theorem clone_any (A : Option Addr) (n c : Nat) (Z : List Int) (w : World) (h : ZIn w A Z) (hn : Z.length = n) (hb : n ≤ 17592186044416) :
 Calls Tryz.prog 45 #[.slice A n c] w fun e w' => ∃ v', e = .returned v' ∧ NS w w' v' Z := by
 rcases Nat.eq_zero_or_pos Z.length with h0 | h0
 · have hz : Z = [] := List.eq_nil_of_length_eq_zero h0;subst hz;obtain rfl : n = 0 := hn.symm;cases A with
   | none => exact (Tryz.slices_Clone_int_nil 0 c w).mono fun e w' ⟨h1, h2⟩ => ⟨_, h1, by subst h2; exact NS.start (Below.refl _ _)⟩
   | some a => exact (Tryz.slices_Clone_int_zero a c w).mono fun e w' ⟨v', h1, h2, _, h4⟩ => ⟨v', h1, h2, h4⟩
 · obtain ⟨b, off, rfl, _, hc⟩ := zin_plain h h0;refine (Tryz.slices_Clone_int b off n c Z w (by omega) (by omega) hc).mono fun e w' ⟨v', h1, h2, _, h4⟩ => ⟨v', h1, ?_, h4⟩
   rw [List.take_of_length_le (by omega)] at h2;rw [hn]; exact h2
theorem max_any (A : Option Addr) (n c : Nat) (Z : List Int) (w : World) (h : ZIn w A Z) (hn : Z.length = n) (h0 : 0 < n) (hb : n ≤ 9223372036854775807) :
 Calls Tryz.prog 92 #[.slice A n c] w fun e w' => e = .returned (.int .i64 (Lib.maxOf Z)) ∧ Below w.heap.size w w' := by
 obtain ⟨b, off, rfl, _, hc⟩ := zin_plain h (by omega);refine (Tryz.slices_Max_int b off n c Z w h0 (by omega) hb hc).mono fun e w' ⟨h1, h2⟩ => ⟨?_, by subst h2; exact Below.refl _ _⟩
 rw [List.take_of_length_le (by omega)] at h1;exact h1
theorem equal_any (Ax : Option Addr) (n cx : Nat) (Ay : Option Addr) (m cy : Nat) (X Y : List Int) (w : World) (hX : ZIn w Ax X) (hn : X.length = n) (hY : ZIn w Ay Y) (hm : Y.length = m) (hnb : n ≤ 9223372036854775807) (hmb : m ≤ 9223372036854775807) :
 Calls Tryz.prog 38 #[.slice Ax n cx, .slice Ay m cy] w fun e w' => e = .returned (.bool (decide (X = Y))) ∧ Below w.heap.size w w' := by
 by_cases hnm : n = m
 · subst hnm;rcases Nat.eq_zero_or_pos n with h0 | h0
   · subst h0;have e1 : X = [] := List.eq_nil_of_length_eq_zero hn;have e2 : Y = [] := List.eq_nil_of_length_eq_zero hm;subst e1 e2;refine (Tryz.slices_Equal_int_empty Ax Ay cx 0 cy w (by omega)).mono fun e w' h => ⟨?_, ?_⟩
     · rw [h.1]; rfl
     · first | (obtain ⟨_, q, rfl⟩ := h; exact below_drewN _ _) | (obtain ⟨_, rfl⟩ := h; exact Below.refl _ _)
   · obtain ⟨b1, o1, rfl, _, c1⟩ := zin_plain hX (by omega);obtain ⟨b2, o2, rfl, _, c2⟩ := zin_plain hY (by omega);refine (Tryz.slices_Equal_int b1 o1 n cx b2 o2 n cy X Y w (by omega) (by omega) (by omega) (by omega) c1 c2).mono fun e w' h => ⟨?_, ?_⟩
     · rw [h.1];rw [List.take_of_length_le (by omega), List.take_of_length_le (by omega)];exact ret_bool (by rw [Bool.eq_iff_iff]; simp)
     · obtain ⟨_, q, rfl⟩ := h; exact below_drewN _ _
 · refine (Tryz.slices_Equal_int_lens Ax Ay n cx m cy w hnm).mono fun e w' h => ⟨?_, ?_⟩
   · rw [h.1, decide_eq_false (by rintro rfl; omega)]
   · obtain ⟨_, rfl⟩ := h; exact Below.refl _ _
def intC (x : Int) : List Value := [.int .i64 x]
theorem intC_len (x : Int) : (intC x).length = 1 := rfl
theorem intC_one (x : Int) : ∀ u ∈ intC x, u.oneCell' = true := by intro u hu; simp [intC] at hu; subst hu; rfl
theorem intC_map (L : List Int) : L.flatMap intC = L.map (Value.int .i64) := by
 induction L with
 | nil => rfl
 | cons a L ih => rw [List.flatMap_cons, ih]; rfl
theorem rd_of_z {w : World} {A : Option Addr} {L : List Int} (h : ZIn w A L) : Rd intC 1 w A L := by
 intro i hi;obtain ⟨ad, e, hl, c0⟩ := h i hi;refine ⟨ad, e, by rw [Nat.mul_one]; exact hl, fun j u hj hu => ?_⟩;obtain rfl : j = 0 := by omega
 simp [intC] at hu; subst hu; rw [Nat.mul_one]; exact c0
end
end Go.Proofs.YtpiihmbeedlpkaaGreatDoor
