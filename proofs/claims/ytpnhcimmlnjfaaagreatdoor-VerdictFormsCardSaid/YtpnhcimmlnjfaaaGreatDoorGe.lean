/- VerdictForms: the walk through the statement. -/
import Derived.Test.YtpnhcimmlnjfaaaGreatDoorYn
import Derived.Test.YtpnhcimmlnjfaaaGreatDoorGc
import Derived.Test.YtpnhcimmlnjfaaaGreatDoorGd
namespace Go.Proofs.YtpnhcimmlnjfaaaGreatDoor
open Go.Lib (hid)
open Go.RowKit

theorem nilz_z (w : World) : ZIn w none [] := fun i hi => by simp at hi
theorem nilz_l (w : World) : LIn w none [] := fun i hi => by simp at hi
theorem nilz_mv (w : World) : Rd mvC 3 w none [] := fun i hi => by simp at hi
theorem marks_l {w : World} {Am : Option Addr} {nl : Nat} {L : List (List Int)} (h : LIn w Am L) (hl : L.length = nl) : CfL w none 0 [] none 0 [] Am nl L none 0 [] none 0 [] none 0 [] :=
 ⟨nilz_z w, rfl, nilz_z w, rfl, h, hl, nilz_mv w, rfl, nilz_l w, rfl, nilz_l w, rfl⟩
theorem opp_out {k : Int} (h : k < 1 ∨ 10 < k) : oppV k = 0 ∧ oppE k = 2 := ⟨if_neg (by omega), if_neg (by omega)⟩
theorem lens (n : Nat) : (decide ((60 : Int) < (n : Int)) = false ∧ decide ((2000 : Int) < (n : Int)) = false ∧ n ≤ 2000) ∨ (decide ((60 : Int) < (n : Int)) = true ∧ decide ((n : Int) ≤ 1000) = true) ∨ (decide ((60 : Int) < (n : Int)) = true ∧ decide ((n : Int) ≤ 1000) = false ∧ decide ((2000 : Int) < (n : Int)) = false ∧ n ≤ 2000) ∨ (decide ((60 : Int) < (n : Int)) = true ∧ decide ((n : Int) ≤ 1000) = false ∧ decide ((2000 : Int) < (n : Int)) = true) := by
 rcases Nat.lt_or_ge 60 n with h1 | h1
 · rcases Nat.lt_or_ge 1000 n with h2 | h2
   · rcases Nat.lt_or_ge 2000 n with h3 | h3
     · right; right; right; refine ⟨by simp; omega, by simp; omega, by simp; omega⟩
     · right; right; left; refine ⟨by simp; omega, by simp; omega, by simp; omega, h3⟩
   · right; left; refine ⟨by simp; omega, by simp; omega⟩
 · left; refine ⟨by simp; omega, by simp; omega, by omega⟩
set_option maxHeartbeats 51200000 in
set_option maxRecDepth 100000 in
theorem verdictForms_walk (N : Nt) (A : Option Addr) (n c : Nat) (Am : Option Addr) (nl cm : Nat) (L : List (List Int)) (Ar : Option Addr) (nr cr : Nat) (R : List Int) (Ap : Option Addr) (np cp : Nat) (P : List Int) (k : Int) (w : World) (ht : Tb w) (h : NtIn w A N) (hn : N.tr.length = n) (hn2 : n ≤ 9223372036854775807) (hL : LIn w Am L) (hl : L.length = nl) (hR : ZIn w Ar R) (hr : R.length = nr) (hP : ZIn w Ap P) (hp : P.length = np) :
 Calls Tryz.prog 4 #[.agg #[.int .i64 N.pl, .slice A n c, .int .i64 N.src, .int .i64 N.snk], .slice Am nl cm, .slice Ar nr cr, .slice Ap np cp, .int .i64 k] w fun e w' => e = .returned (.bool true) ∧ Below w.heap.size w w' := by
 have HB0 := hid (below_alloc w (.cells #[.int .i64 N.pl, .slice A n c, .int .i64 N.src, .int .i64 N.snk] 24))
 have HNb0 := hid (NB.new w N.pl A n c N.src N.snk)
 have HIn0 := hid (h.below HB0.out)
 have HL0 := hid (hL.below HB0.out)
 have HR0 := hid (hR.below HB0.out)
 have HP0 := hid (hP.below HB0.out)
 have HT0 := hid (ht.below HB0.out)
 have HNl := hid hn
 have HLl := hid hl
 have HRl := hid hr
 have HPl := hid hp
 clear h hn hL hl hR hr hP hp ht
 go_enter Tryz.func4, Tryz.ntmps4
 go_wp2_with fail
 generalize w.alloc _ = w0 at *
 ((with_reducible refine (awake_any w0 HT0.out).mono ?_); rintro e w1 ⟨rfl, hb1⟩)
 clear HT0
 have HB1 := hid (HB0.out.trans (hb1.mono HB0.out.size))
 have HNb1 := hid (HNb0.out.below hb1)
 have HIn1 := hid (HIn0.out.below hb1)
 have HL1 := hid (HL0.out.below hb1)
 have HR1 := hid (HR0.out.below hb1)
 have HP1 := hid (HP0.out.below hb1)
 clear HB0 HNb0 HIn0 HL0 HR0 HP0 hb1
 obtain ⟨b0, b1, b2, b3⟩ := HNb1.out.cells
 have HGr := hid (great_any N A n c w1 HIn1.out HNl.out hn2)
 go_wp2_with fail
 ((with_reducible refine HGr.out.mono ?_); rintro e w2 ⟨b, rfl, hbn, hb2⟩)
 clear HGr
 clear b0 b1 b2 b3
 have HB2 := hid (HB1.out.trans (hb2.mono HB1.out.size))
 have HNb2 := hid (HNb1.out.below hb2)
 have HIn2 := hid (HIn1.out.below hb2)
 have HL2 := hid (HL1.out.below hb2)
 have HR2 := hid (HR1.out.below hb2)
 have HP2 := hid (HP1.out.below hb2)
 clear HB1 HNb1 HIn1 HL1 HR1 HP1 hb2
 cases b with
 | true =>
  go_wp2_with fail
  go_ret
  exact ⟨rfl, HB2.out⟩
 | false =>
 have hn100 : n ≤ 100 := hbn rfl
 clear hbn
 have HG2 := hid (show Calls Tryz.prog 7 #[.agg #[.int .i64 0, .int .i64 0, .slice none 0 0, .slice none 0 0, .slice Am nl cm, .slice none 0 0, .slice none 0 0, .slice none 0 0], .int .i64 60] w2 _ from great29_any 0 0 none 0 0 [] none 0 0 [] Am nl cm L none 0 0 [] none 0 0 [] none 0 0 [] 60 w2 (marks_l HL2.out HLl.out) (by omega))
 go_wp2_with fail
 ((with_reducible refine (HG2.out).mono ?_); rintro e w3 ⟨rfl, hb3⟩)
 clear HG2
 have HB3 := hid (HB2.out.trans (hb3.mono HB2.out.size))
 have HNb3 := hid (HNb2.out.below hb3)
 have HIn3 := hid (HIn2.out.below hb3)
 have HL3 := hid (HL2.out.below hb3)
 have HR3 := hid (HR2.out.below hb3)
 have HP3 := hid (HP2.out.below hb3)
 clear HB2 HNb2 HIn2 HL2 HR2 HP2 hb3
 cases hg : grtB 60 [] [] L [] [] [] with
 | true =>
  clear hg
  go_wp2_with fail
  go_ret
  exact ⟨rfl, HB3.out⟩
 | false =>
 obtain ⟨_, _, g3, _⟩ := grt_no hg
 have hnl : nl ≤ 60 := by rw [← HLl.out]; exact g3
 clear hg g3
 rcases lens nr with ⟨q1, q3, hr2⟩ | ⟨q1, q2⟩ | ⟨q1, q2, q3, hr2⟩ | ⟨q1, q2, q3⟩
 · skip
   rcases lens np with ⟨p1, p3, hp2⟩ | ⟨p1, p2⟩ | ⟨p1, p2, p3, hp2⟩ | ⟨p1, p2, p3⟩
   · obtain ⟨xc, hxc⟩ : ∃ x, x = (if givE N L false = 0 then closX N L else false) := ⟨_, rfl⟩
     obtain ⟨gc, hgc⟩ : ∃ x, x = givE N L false := ⟨_, rfl⟩
     obtain ⟨xv, hxv⟩ : ∃ x, x = (if givE N L true = 0 then covX N L else false) := ⟨_, rfl⟩
     obtain ⟨gv, hgv⟩ : ∃ x, x = givE N L true := ⟨_, rfl⟩
     obtain ⟨xp, hxp⟩ : ∃ x, x = (if pumE N R P = 0 then vpumB N R P else false) := ⟨_, rfl⟩
     obtain ⟨gp, hgp⟩ : ∃ x, x = pumE N R P := ⟨_, rfl⟩
     have Exc := hid hxc
     have Egc := hid hgc
     have Exv := hid hxv
     have Egv := hid hgv
     have Exp := hid hxp
     have Egp := hid hgp
     clear hxc hgc hxv hgv hxp hgp
     obtain ⟨b0, b1, b2, b3⟩ := HNb3.out.cells
     have HC := hid (vClosed_any N A n c Am nl cm L w3 HIn3.out HNl.out (by omega) HL3.out HLl.out (by omega))
     rw [← Exc.out, ← Egc.out] at HC
     go_wp2_with fail
     ((with_reducible refine (HC.out).mono ?_); rintro e w4 ⟨rfl, hb4⟩)
     clear HC
     clear b0 b1 b2 b3
     have HB4 := hid (HB3.out.trans (hb4.mono HB3.out.size))
     have HNb4 := hid (HNb3.out.below hb4)
     have HIn4 := hid (HIn3.out.below hb4)
     have HL4 := hid (HL3.out.below hb4)
     have HR4 := hid (HR3.out.below hb4)
     have HP4 := hid (HP3.out.below hb4)
     clear HB3 HNb3 HIn3 HL3 HR3 HP3 hb4
     obtain ⟨b0, b1, b2, b3⟩ := HNb4.out.cells
     have HC := hid (vCover_any N A n c Am nl cm L w4 HIn4.out HNl.out (by omega) HL4.out HLl.out (by omega))
     rw [← Exv.out, ← Egv.out] at HC
     go_wp2_with fail
     ((with_reducible refine (HC.out).mono ?_); rintro e w5 ⟨rfl, hb5⟩)
     clear HC
     clear b0 b1 b2 b3
     have HB5 := hid (HB4.out.trans (hb5.mono HB4.out.size))
     have HNb5 := hid (HNb4.out.below hb5)
     have HIn5 := hid (HIn4.out.below hb5)
     have HL5 := hid (HL4.out.below hb5)
     have HR5 := hid (HR4.out.below hb5)
     have HP5 := hid (HP4.out.below hb5)
     clear HB4 HNb4 HIn4 HL4 HR4 HP4 hb5
     obtain ⟨b0, b1, b2, b3⟩ := HNb5.out.cells
     have HC := hid (vPump_any N A n c Ar nr cr R Ap np cp P w5 HIn5.out HNl.out (by omega) HR5.out HRl.out HP5.out HPl.out)
     rw [← Exp.out, ← Egp.out] at HC
     go_wp2_with fail
     ((with_reducible refine (HC.out).mono ?_); rintro e w6 ⟨rfl, hb6⟩)
     clear HC
     clear b0 b1 b2 b3
     have HB6 := hid (HB5.out.trans (hb6.mono HB5.out.size))
     have HNb6 := hid (HNb5.out.below hb6)
     have HIn6 := hid (HIn5.out.below hb6)
     have HL6 := hid (HL5.out.below hb6)
     have HR6 := hid (HR5.out.below hb6)
     have HP6 := hid (HP5.out.below hb6)
     clear HB5 HNb5 HIn5 HL5 HR5 HP5 hb6
     obtain ⟨b0, b1, b2, b3⟩ := HNb6.out.cells
     have HC := hid (closed29_any N A n c Am nl cm L w6 HIn6.out HNl.out (by omega) HL6.out HLl.out (by omega))
     rw [← Exc.out, ← Egc.out] at HC
     go_wp2_with fail
     ((with_reducible refine (HC.out).mono ?_); rintro e w7 ⟨rfl, hb7⟩)
     clear HC
     clear b0 b1 b2 b3
     have HB7 := hid (HB6.out.trans (hb7.mono HB6.out.size))
     have HNb7 := hid (HNb6.out.below hb7)
     have HIn7 := hid (HIn6.out.below hb7)
     have HL7 := hid (HL6.out.below hb7)
     have HR7 := hid (HR6.out.below hb7)
     have HP7 := hid (HP6.out.below hb7)
     clear HB6 HNb6 HIn6 HL6 HR6 HP6 hb7
     obtain ⟨b0, b1, b2, b3⟩ := HNb7.out.cells
     have HC := hid (cover29_any N A n c Am nl cm L w7 HIn7.out HNl.out (by omega) HL7.out HLl.out (by omega))
     rw [← Exv.out, ← Egv.out] at HC
     go_wp2_with fail
     ((with_reducible refine (HC.out).mono ?_); rintro e w8 ⟨rfl, hb8⟩)
     clear HC
     clear b0 b1 b2 b3
     have HB8 := hid (HB7.out.trans (hb8.mono HB7.out.size))
     have HNb8 := hid (HNb7.out.below hb8)
     have HIn8 := hid (HIn7.out.below hb8)
     have HL8 := hid (HL7.out.below hb8)
     have HR8 := hid (HR7.out.below hb8)
     have HP8 := hid (HP7.out.below hb8)
     clear HB7 HNb7 HIn7 HL7 HR7 HP7 hb8
     obtain ⟨b0, b1, b2, b3⟩ := HNb8.out.cells
     have HC := hid (rPump_any N A n c Ar nr cr R Ap np cp P w8 HIn8.out HNl.out (by omega) HR8.out HRl.out HP8.out HPl.out (by omega) (by omega))
     rw [← Exp.out, ← Egp.out] at HC
     go_wp2_with fail
     ((with_reducible refine (HC.out).mono ?_); rintro e w9 ⟨rfl, hb9⟩)
     clear HC
     clear b0 b1 b2 b3
     have HB9 := hid (HB8.out.trans (hb9.mono HB8.out.size))
     have HNb9 := hid (HNb8.out.below hb9)
     have HIn9 := hid (HIn8.out.below hb9)
     have HL9 := hid (HL8.out.below hb9)
     have HR9 := hid (HR8.out.below hb9)
     have HP9 := hid (HP8.out.below hb9)
     clear HB8 HNb8 HIn8 HL8 HR8 HP8 hb9
     clear HIn9 HNb9 HL9 HR9 HP9 Exc Egc Exv Egv Exp Egp
     have s1 : (xc != xc) = false := by simp
     have s2 : (xv != xv) = false := by simp
     have s3 : (xp != xp) = false := by simp
     have s4 : (gc != gc) = false := by simp
     have s5 : (gv != gv) = false := by simp
     have s6 : (gp != gp) = false := by simp
     have hk : k < 1 ∨ 10 < k ∨ k = 1 ∨ k = 2 ∨ k = 3 ∨ k = 4 ∨ k = 5 ∨ k = 6 ∨ k = 7 ∨ k = 8 ∨ k = 9 ∨ k = 10 := by omega
     rcases hk with hk | hk | rfl | rfl | rfl | rfl | rfl | rfl | rfl | rfl | rfl | rfl
     · have HO := hid (vopp_any k w9)
       rw [(opp_out (.inl hk)).1, (opp_out (.inl hk)).2] at HO
       have q7 : decide (k < 1) = true := by simpa using hk
       clear hk
       go_wp2_with fail
       ((with_reducible refine HO.out.mono ?_); rintro e w10 ⟨rfl, hb10⟩)
       have HB10 := hid (HB9.out.trans (hb10.mono HB9.out.size))
       go_wp2_with fail
       go_ret
       exact ⟨rfl, HB10.out⟩
     · have HO := hid (vopp_any k w9)
       rw [(opp_out (.inr hk)).1, (opp_out (.inr hk)).2] at HO
       have q7 : decide (k < 1) = false := by simp; omega
       have q8 : decide (10 < k) = true := by simpa using hk
       clear hk
       go_wp2_with fail
       ((with_reducible refine HO.out.mono ?_); rintro e w10 ⟨rfl, hb10⟩)
       have HB10 := hid (HB9.out.trans (hb10.mono HB9.out.size))
       go_wp2_with fail
       go_ret
       exact ⟨rfl, HB10.out⟩
     · have HO := hid (show Calls Tryz.prog 16 #[.int .i64 1] w9 fun e w' => e = .returned (.tuple #[.int .i64 2, .int .i64 0]) ∧ Below w9.heap.size w9 w' from vopp_any 1 w9)
       go_wp2_with fail
       ((with_reducible refine HO.out.mono ?_); rintro e w10 ⟨rfl, hb10⟩)
       have HB10 := hid (HB9.out.trans (hb10.mono HB9.out.size))
       have HO2 := hid (show Calls Tryz.prog 16 #[.int .i64 2] w10 fun e w' => e = .returned (.tuple #[.int .i64 1, .int .i64 0]) ∧ Below w10.heap.size w10 w' from vopp_any 2 w10)
       clear hb10 HO HB9
       go_wp2_with fail
       ((with_reducible refine HO2.out.mono ?_); rintro e w11 ⟨rfl, hb11⟩)
       have HB11 := hid (HB10.out.trans (hb11.mono HB10.out.size))
       clear hb11 HO2 HB10
       go_wp2_with fail
       go_ret
       exact ⟨rfl, HB11.out⟩
     · have HO := hid (show Calls Tryz.prog 16 #[.int .i64 2] w9 fun e w' => e = .returned (.tuple #[.int .i64 1, .int .i64 0]) ∧ Below w9.heap.size w9 w' from vopp_any 2 w9)
       go_wp2_with fail
       ((with_reducible refine HO.out.mono ?_); rintro e w10 ⟨rfl, hb10⟩)
       have HB10 := hid (HB9.out.trans (hb10.mono HB9.out.size))
       have HO2 := hid (show Calls Tryz.prog 16 #[.int .i64 1] w10 fun e w' => e = .returned (.tuple #[.int .i64 2, .int .i64 0]) ∧ Below w10.heap.size w10 w' from vopp_any 1 w10)
       clear hb10 HO HB9
       go_wp2_with fail
       ((with_reducible refine HO2.out.mono ?_); rintro e w11 ⟨rfl, hb11⟩)
       have HB11 := hid (HB10.out.trans (hb11.mono HB10.out.size))
       clear hb11 HO2 HB10
       go_wp2_with fail
       go_ret
       exact ⟨rfl, HB11.out⟩
     · have HO := hid (show Calls Tryz.prog 16 #[.int .i64 3] w9 fun e w' => e = .returned (.tuple #[.int .i64 4, .int .i64 0]) ∧ Below w9.heap.size w9 w' from vopp_any 3 w9)
       go_wp2_with fail
       ((with_reducible refine HO.out.mono ?_); rintro e w10 ⟨rfl, hb10⟩)
       have HB10 := hid (HB9.out.trans (hb10.mono HB9.out.size))
       have HO2 := hid (show Calls Tryz.prog 16 #[.int .i64 4] w10 fun e w' => e = .returned (.tuple #[.int .i64 3, .int .i64 0]) ∧ Below w10.heap.size w10 w' from vopp_any 4 w10)
       clear hb10 HO HB9
       go_wp2_with fail
       ((with_reducible refine HO2.out.mono ?_); rintro e w11 ⟨rfl, hb11⟩)
       have HB11 := hid (HB10.out.trans (hb11.mono HB10.out.size))
       clear hb11 HO2 HB10
       go_wp2_with fail
       go_ret
       exact ⟨rfl, HB11.out⟩
     · have HO := hid (show Calls Tryz.prog 16 #[.int .i64 4] w9 fun e w' => e = .returned (.tuple #[.int .i64 3, .int .i64 0]) ∧ Below w9.heap.size w9 w' from vopp_any 4 w9)
       go_wp2_with fail
       ((with_reducible refine HO.out.mono ?_); rintro e w10 ⟨rfl, hb10⟩)
       have HB10 := hid (HB9.out.trans (hb10.mono HB9.out.size))
       have HO2 := hid (show Calls Tryz.prog 16 #[.int .i64 3] w10 fun e w' => e = .returned (.tuple #[.int .i64 4, .int .i64 0]) ∧ Below w10.heap.size w10 w' from vopp_any 3 w10)
       clear hb10 HO HB9
       go_wp2_with fail
       ((with_reducible refine HO2.out.mono ?_); rintro e w11 ⟨rfl, hb11⟩)
       have HB11 := hid (HB10.out.trans (hb11.mono HB10.out.size))
       clear hb11 HO2 HB10
       go_wp2_with fail
       go_ret
       exact ⟨rfl, HB11.out⟩
     · have HO := hid (show Calls Tryz.prog 16 #[.int .i64 5] w9 fun e w' => e = .returned (.tuple #[.int .i64 6, .int .i64 0]) ∧ Below w9.heap.size w9 w' from vopp_any 5 w9)
       go_wp2_with fail
       ((with_reducible refine HO.out.mono ?_); rintro e w10 ⟨rfl, hb10⟩)
       have HB10 := hid (HB9.out.trans (hb10.mono HB9.out.size))
       have HO2 := hid (show Calls Tryz.prog 16 #[.int .i64 6] w10 fun e w' => e = .returned (.tuple #[.int .i64 5, .int .i64 0]) ∧ Below w10.heap.size w10 w' from vopp_any 6 w10)
       clear hb10 HO HB9
       go_wp2_with fail
       ((with_reducible refine HO2.out.mono ?_); rintro e w11 ⟨rfl, hb11⟩)
       have HB11 := hid (HB10.out.trans (hb11.mono HB10.out.size))
       clear hb11 HO2 HB10
       go_wp2_with fail
       go_ret
       exact ⟨rfl, HB11.out⟩
     · have HO := hid (show Calls Tryz.prog 16 #[.int .i64 6] w9 fun e w' => e = .returned (.tuple #[.int .i64 5, .int .i64 0]) ∧ Below w9.heap.size w9 w' from vopp_any 6 w9)
       go_wp2_with fail
       ((with_reducible refine HO.out.mono ?_); rintro e w10 ⟨rfl, hb10⟩)
       have HB10 := hid (HB9.out.trans (hb10.mono HB9.out.size))
       have HO2 := hid (show Calls Tryz.prog 16 #[.int .i64 5] w10 fun e w' => e = .returned (.tuple #[.int .i64 6, .int .i64 0]) ∧ Below w10.heap.size w10 w' from vopp_any 5 w10)
       clear hb10 HO HB9
       go_wp2_with fail
       ((with_reducible refine HO2.out.mono ?_); rintro e w11 ⟨rfl, hb11⟩)
       have HB11 := hid (HB10.out.trans (hb11.mono HB10.out.size))
       clear hb11 HO2 HB10
       go_wp2_with fail
       go_ret
       exact ⟨rfl, HB11.out⟩
     · have HO := hid (show Calls Tryz.prog 16 #[.int .i64 7] w9 fun e w' => e = .returned (.tuple #[.int .i64 8, .int .i64 0]) ∧ Below w9.heap.size w9 w' from vopp_any 7 w9)
       go_wp2_with fail
       ((with_reducible refine HO.out.mono ?_); rintro e w10 ⟨rfl, hb10⟩)
       have HB10 := hid (HB9.out.trans (hb10.mono HB9.out.size))
       have HO2 := hid (show Calls Tryz.prog 16 #[.int .i64 8] w10 fun e w' => e = .returned (.tuple #[.int .i64 7, .int .i64 0]) ∧ Below w10.heap.size w10 w' from vopp_any 8 w10)
       clear hb10 HO HB9
       go_wp2_with fail
       ((with_reducible refine HO2.out.mono ?_); rintro e w11 ⟨rfl, hb11⟩)
       have HB11 := hid (HB10.out.trans (hb11.mono HB10.out.size))
       clear hb11 HO2 HB10
       go_wp2_with fail
       go_ret
       exact ⟨rfl, HB11.out⟩
     · have HO := hid (show Calls Tryz.prog 16 #[.int .i64 8] w9 fun e w' => e = .returned (.tuple #[.int .i64 7, .int .i64 0]) ∧ Below w9.heap.size w9 w' from vopp_any 8 w9)
       go_wp2_with fail
       ((with_reducible refine HO.out.mono ?_); rintro e w10 ⟨rfl, hb10⟩)
       have HB10 := hid (HB9.out.trans (hb10.mono HB9.out.size))
       have HO2 := hid (show Calls Tryz.prog 16 #[.int .i64 7] w10 fun e w' => e = .returned (.tuple #[.int .i64 8, .int .i64 0]) ∧ Below w10.heap.size w10 w' from vopp_any 7 w10)
       clear hb10 HO HB9
       go_wp2_with fail
       ((with_reducible refine HO2.out.mono ?_); rintro e w11 ⟨rfl, hb11⟩)
       have HB11 := hid (HB10.out.trans (hb11.mono HB10.out.size))
       clear hb11 HO2 HB10
       go_wp2_with fail
       go_ret
       exact ⟨rfl, HB11.out⟩
     · have HO := hid (show Calls Tryz.prog 16 #[.int .i64 9] w9 fun e w' => e = .returned (.tuple #[.int .i64 10, .int .i64 0]) ∧ Below w9.heap.size w9 w' from vopp_any 9 w9)
       go_wp2_with fail
       ((with_reducible refine HO.out.mono ?_); rintro e w10 ⟨rfl, hb10⟩)
       have HB10 := hid (HB9.out.trans (hb10.mono HB9.out.size))
       have HO2 := hid (show Calls Tryz.prog 16 #[.int .i64 10] w10 fun e w' => e = .returned (.tuple #[.int .i64 9, .int .i64 0]) ∧ Below w10.heap.size w10 w' from vopp_any 10 w10)
       clear hb10 HO HB9
       go_wp2_with fail
       ((with_reducible refine HO2.out.mono ?_); rintro e w11 ⟨rfl, hb11⟩)
       have HB11 := hid (HB10.out.trans (hb11.mono HB10.out.size))
       clear hb11 HO2 HB10
       go_wp2_with fail
       go_ret
       exact ⟨rfl, HB11.out⟩
     · have HO := hid (show Calls Tryz.prog 16 #[.int .i64 10] w9 fun e w' => e = .returned (.tuple #[.int .i64 9, .int .i64 0]) ∧ Below w9.heap.size w9 w' from vopp_any 10 w9)
       go_wp2_with fail
       ((with_reducible refine HO.out.mono ?_); rintro e w10 ⟨rfl, hb10⟩)
       have HB10 := hid (HB9.out.trans (hb10.mono HB9.out.size))
       have HO2 := hid (show Calls Tryz.prog 16 #[.int .i64 9] w10 fun e w' => e = .returned (.tuple #[.int .i64 10, .int .i64 0]) ∧ Below w10.heap.size w10 w' from vopp_any 9 w10)
       clear hb10 HO HB9
       go_wp2_with fail
       ((with_reducible refine HO2.out.mono ?_); rintro e w11 ⟨rfl, hb11⟩)
       have HB11 := hid (HB10.out.trans (hb11.mono HB10.out.size))
       clear hb11 HO2 HB10
       go_wp2_with fail
       go_ret
       exact ⟨rfl, HB11.out⟩
   · go_wp2_with fail
     go_ret
     exact ⟨rfl, HB3.out⟩
   · obtain ⟨xc, hxc⟩ : ∃ x, x = (if givE N L false = 0 then closX N L else false) := ⟨_, rfl⟩
     obtain ⟨gc, hgc⟩ : ∃ x, x = givE N L false := ⟨_, rfl⟩
     obtain ⟨xv, hxv⟩ : ∃ x, x = (if givE N L true = 0 then covX N L else false) := ⟨_, rfl⟩
     obtain ⟨gv, hgv⟩ : ∃ x, x = givE N L true := ⟨_, rfl⟩
     obtain ⟨xp, hxp⟩ : ∃ x, x = (if pumE N R P = 0 then vpumB N R P else false) := ⟨_, rfl⟩
     obtain ⟨gp, hgp⟩ : ∃ x, x = pumE N R P := ⟨_, rfl⟩
     have Exc := hid hxc
     have Egc := hid hgc
     have Exv := hid hxv
     have Egv := hid hgv
     have Exp := hid hxp
     have Egp := hid hgp
     clear hxc hgc hxv hgv hxp hgp
     obtain ⟨b0, b1, b2, b3⟩ := HNb3.out.cells
     have HC := hid (vClosed_any N A n c Am nl cm L w3 HIn3.out HNl.out (by omega) HL3.out HLl.out (by omega))
     rw [← Exc.out, ← Egc.out] at HC
     go_wp2_with fail
     ((with_reducible refine (HC.out).mono ?_); rintro e w4 ⟨rfl, hb4⟩)
     clear HC
     clear b0 b1 b2 b3
     have HB4 := hid (HB3.out.trans (hb4.mono HB3.out.size))
     have HNb4 := hid (HNb3.out.below hb4)
     have HIn4 := hid (HIn3.out.below hb4)
     have HL4 := hid (HL3.out.below hb4)
     have HR4 := hid (HR3.out.below hb4)
     have HP4 := hid (HP3.out.below hb4)
     clear HB3 HNb3 HIn3 HL3 HR3 HP3 hb4
     obtain ⟨b0, b1, b2, b3⟩ := HNb4.out.cells
     have HC := hid (vCover_any N A n c Am nl cm L w4 HIn4.out HNl.out (by omega) HL4.out HLl.out (by omega))
     rw [← Exv.out, ← Egv.out] at HC
     go_wp2_with fail
     ((with_reducible refine (HC.out).mono ?_); rintro e w5 ⟨rfl, hb5⟩)
     clear HC
     clear b0 b1 b2 b3
     have HB5 := hid (HB4.out.trans (hb5.mono HB4.out.size))
     have HNb5 := hid (HNb4.out.below hb5)
     have HIn5 := hid (HIn4.out.below hb5)
     have HL5 := hid (HL4.out.below hb5)
     have HR5 := hid (HR4.out.below hb5)
     have HP5 := hid (HP4.out.below hb5)
     clear HB4 HNb4 HIn4 HL4 HR4 HP4 hb5
     obtain ⟨b0, b1, b2, b3⟩ := HNb5.out.cells
     have HC := hid (vPump_any N A n c Ar nr cr R Ap np cp P w5 HIn5.out HNl.out (by omega) HR5.out HRl.out HP5.out HPl.out)
     rw [← Exp.out, ← Egp.out] at HC
     go_wp2_with fail
     ((with_reducible refine (HC.out).mono ?_); rintro e w6 ⟨rfl, hb6⟩)
     clear HC
     clear b0 b1 b2 b3
     have HB6 := hid (HB5.out.trans (hb6.mono HB5.out.size))
     have HNb6 := hid (HNb5.out.below hb6)
     have HIn6 := hid (HIn5.out.below hb6)
     have HL6 := hid (HL5.out.below hb6)
     have HR6 := hid (HR5.out.below hb6)
     have HP6 := hid (HP5.out.below hb6)
     clear HB5 HNb5 HIn5 HL5 HR5 HP5 hb6
     obtain ⟨b0, b1, b2, b3⟩ := HNb6.out.cells
     have HC := hid (closed29_any N A n c Am nl cm L w6 HIn6.out HNl.out (by omega) HL6.out HLl.out (by omega))
     rw [← Exc.out, ← Egc.out] at HC
     go_wp2_with fail
     ((with_reducible refine (HC.out).mono ?_); rintro e w7 ⟨rfl, hb7⟩)
     clear HC
     clear b0 b1 b2 b3
     have HB7 := hid (HB6.out.trans (hb7.mono HB6.out.size))
     have HNb7 := hid (HNb6.out.below hb7)
     have HIn7 := hid (HIn6.out.below hb7)
     have HL7 := hid (HL6.out.below hb7)
     have HR7 := hid (HR6.out.below hb7)
     have HP7 := hid (HP6.out.below hb7)
     clear HB6 HNb6 HIn6 HL6 HR6 HP6 hb7
     obtain ⟨b0, b1, b2, b3⟩ := HNb7.out.cells
     have HC := hid (cover29_any N A n c Am nl cm L w7 HIn7.out HNl.out (by omega) HL7.out HLl.out (by omega))
     rw [← Exv.out, ← Egv.out] at HC
     go_wp2_with fail
     ((with_reducible refine (HC.out).mono ?_); rintro e w8 ⟨rfl, hb8⟩)
     clear HC
     clear b0 b1 b2 b3
     have HB8 := hid (HB7.out.trans (hb8.mono HB7.out.size))
     have HNb8 := hid (HNb7.out.below hb8)
     have HIn8 := hid (HIn7.out.below hb8)
     have HL8 := hid (HL7.out.below hb8)
     have HR8 := hid (HR7.out.below hb8)
     have HP8 := hid (HP7.out.below hb8)
     clear HB7 HNb7 HIn7 HL7 HR7 HP7 hb8
     obtain ⟨b0, b1, b2, b3⟩ := HNb8.out.cells
     have HC := hid (rPump_any N A n c Ar nr cr R Ap np cp P w8 HIn8.out HNl.out (by omega) HR8.out HRl.out HP8.out HPl.out (by omega) (by omega))
     rw [← Exp.out, ← Egp.out] at HC
     go_wp2_with fail
     ((with_reducible refine (HC.out).mono ?_); rintro e w9 ⟨rfl, hb9⟩)
     clear HC
     clear b0 b1 b2 b3
     have HB9 := hid (HB8.out.trans (hb9.mono HB8.out.size))
     have HNb9 := hid (HNb8.out.below hb9)
     have HIn9 := hid (HIn8.out.below hb9)
     have HL9 := hid (HL8.out.below hb9)
     have HR9 := hid (HR8.out.below hb9)
     have HP9 := hid (HP8.out.below hb9)
     clear HB8 HNb8 HIn8 HL8 HR8 HP8 hb9
     clear HIn9 HNb9 HL9 HR9 HP9 Exc Egc Exv Egv Exp Egp
     have s1 : (xc != xc) = false := by simp
     have s2 : (xv != xv) = false := by simp
     have s3 : (xp != xp) = false := by simp
     have s4 : (gc != gc) = false := by simp
     have s5 : (gv != gv) = false := by simp
     have s6 : (gp != gp) = false := by simp
     have hk : k < 1 ∨ 10 < k ∨ k = 1 ∨ k = 2 ∨ k = 3 ∨ k = 4 ∨ k = 5 ∨ k = 6 ∨ k = 7 ∨ k = 8 ∨ k = 9 ∨ k = 10 := by omega
     rcases hk with hk | hk | rfl | rfl | rfl | rfl | rfl | rfl | rfl | rfl | rfl | rfl
     · have HO := hid (vopp_any k w9)
       rw [(opp_out (.inl hk)).1, (opp_out (.inl hk)).2] at HO
       have q7 : decide (k < 1) = true := by simpa using hk
       clear hk
       go_wp2_with fail
       ((with_reducible refine HO.out.mono ?_); rintro e w10 ⟨rfl, hb10⟩)
       have HB10 := hid (HB9.out.trans (hb10.mono HB9.out.size))
       go_wp2_with fail
       go_ret
       exact ⟨rfl, HB10.out⟩
     · have HO := hid (vopp_any k w9)
       rw [(opp_out (.inr hk)).1, (opp_out (.inr hk)).2] at HO
       have q7 : decide (k < 1) = false := by simp; omega
       have q8 : decide (10 < k) = true := by simpa using hk
       clear hk
       go_wp2_with fail
       ((with_reducible refine HO.out.mono ?_); rintro e w10 ⟨rfl, hb10⟩)
       have HB10 := hid (HB9.out.trans (hb10.mono HB9.out.size))
       go_wp2_with fail
       go_ret
       exact ⟨rfl, HB10.out⟩
     · have HO := hid (show Calls Tryz.prog 16 #[.int .i64 1] w9 fun e w' => e = .returned (.tuple #[.int .i64 2, .int .i64 0]) ∧ Below w9.heap.size w9 w' from vopp_any 1 w9)
       go_wp2_with fail
       ((with_reducible refine HO.out.mono ?_); rintro e w10 ⟨rfl, hb10⟩)
       have HB10 := hid (HB9.out.trans (hb10.mono HB9.out.size))
       have HO2 := hid (show Calls Tryz.prog 16 #[.int .i64 2] w10 fun e w' => e = .returned (.tuple #[.int .i64 1, .int .i64 0]) ∧ Below w10.heap.size w10 w' from vopp_any 2 w10)
       clear hb10 HO HB9
       go_wp2_with fail
       ((with_reducible refine HO2.out.mono ?_); rintro e w11 ⟨rfl, hb11⟩)
       have HB11 := hid (HB10.out.trans (hb11.mono HB10.out.size))
       clear hb11 HO2 HB10
       go_wp2_with fail
       go_ret
       exact ⟨rfl, HB11.out⟩
     · have HO := hid (show Calls Tryz.prog 16 #[.int .i64 2] w9 fun e w' => e = .returned (.tuple #[.int .i64 1, .int .i64 0]) ∧ Below w9.heap.size w9 w' from vopp_any 2 w9)
       go_wp2_with fail
       ((with_reducible refine HO.out.mono ?_); rintro e w10 ⟨rfl, hb10⟩)
       have HB10 := hid (HB9.out.trans (hb10.mono HB9.out.size))
       have HO2 := hid (show Calls Tryz.prog 16 #[.int .i64 1] w10 fun e w' => e = .returned (.tuple #[.int .i64 2, .int .i64 0]) ∧ Below w10.heap.size w10 w' from vopp_any 1 w10)
       clear hb10 HO HB9
       go_wp2_with fail
       ((with_reducible refine HO2.out.mono ?_); rintro e w11 ⟨rfl, hb11⟩)
       have HB11 := hid (HB10.out.trans (hb11.mono HB10.out.size))
       clear hb11 HO2 HB10
       go_wp2_with fail
       go_ret
       exact ⟨rfl, HB11.out⟩
     · have HO := hid (show Calls Tryz.prog 16 #[.int .i64 3] w9 fun e w' => e = .returned (.tuple #[.int .i64 4, .int .i64 0]) ∧ Below w9.heap.size w9 w' from vopp_any 3 w9)
       go_wp2_with fail
       ((with_reducible refine HO.out.mono ?_); rintro e w10 ⟨rfl, hb10⟩)
       have HB10 := hid (HB9.out.trans (hb10.mono HB9.out.size))
       have HO2 := hid (show Calls Tryz.prog 16 #[.int .i64 4] w10 fun e w' => e = .returned (.tuple #[.int .i64 3, .int .i64 0]) ∧ Below w10.heap.size w10 w' from vopp_any 4 w10)
       clear hb10 HO HB9
       go_wp2_with fail
       ((with_reducible refine HO2.out.mono ?_); rintro e w11 ⟨rfl, hb11⟩)
       have HB11 := hid (HB10.out.trans (hb11.mono HB10.out.size))
       clear hb11 HO2 HB10
       go_wp2_with fail
       go_ret
       exact ⟨rfl, HB11.out⟩
     · have HO := hid (show Calls Tryz.prog 16 #[.int .i64 4] w9 fun e w' => e = .returned (.tuple #[.int .i64 3, .int .i64 0]) ∧ Below w9.heap.size w9 w' from vopp_any 4 w9)
       go_wp2_with fail
       ((with_reducible refine HO.out.mono ?_); rintro e w10 ⟨rfl, hb10⟩)
       have HB10 := hid (HB9.out.trans (hb10.mono HB9.out.size))
       have HO2 := hid (show Calls Tryz.prog 16 #[.int .i64 3] w10 fun e w' => e = .returned (.tuple #[.int .i64 4, .int .i64 0]) ∧ Below w10.heap.size w10 w' from vopp_any 3 w10)
       clear hb10 HO HB9
       go_wp2_with fail
       ((with_reducible refine HO2.out.mono ?_); rintro e w11 ⟨rfl, hb11⟩)
       have HB11 := hid (HB10.out.trans (hb11.mono HB10.out.size))
       clear hb11 HO2 HB10
       go_wp2_with fail
       go_ret
       exact ⟨rfl, HB11.out⟩
     · have HO := hid (show Calls Tryz.prog 16 #[.int .i64 5] w9 fun e w' => e = .returned (.tuple #[.int .i64 6, .int .i64 0]) ∧ Below w9.heap.size w9 w' from vopp_any 5 w9)
       go_wp2_with fail
       ((with_reducible refine HO.out.mono ?_); rintro e w10 ⟨rfl, hb10⟩)
       have HB10 := hid (HB9.out.trans (hb10.mono HB9.out.size))
       have HO2 := hid (show Calls Tryz.prog 16 #[.int .i64 6] w10 fun e w' => e = .returned (.tuple #[.int .i64 5, .int .i64 0]) ∧ Below w10.heap.size w10 w' from vopp_any 6 w10)
       clear hb10 HO HB9
       go_wp2_with fail
       ((with_reducible refine HO2.out.mono ?_); rintro e w11 ⟨rfl, hb11⟩)
       have HB11 := hid (HB10.out.trans (hb11.mono HB10.out.size))
       clear hb11 HO2 HB10
       go_wp2_with fail
       go_ret
       exact ⟨rfl, HB11.out⟩
     · have HO := hid (show Calls Tryz.prog 16 #[.int .i64 6] w9 fun e w' => e = .returned (.tuple #[.int .i64 5, .int .i64 0]) ∧ Below w9.heap.size w9 w' from vopp_any 6 w9)
       go_wp2_with fail
       ((with_reducible refine HO.out.mono ?_); rintro e w10 ⟨rfl, hb10⟩)
       have HB10 := hid (HB9.out.trans (hb10.mono HB9.out.size))
       have HO2 := hid (show Calls Tryz.prog 16 #[.int .i64 5] w10 fun e w' => e = .returned (.tuple #[.int .i64 6, .int .i64 0]) ∧ Below w10.heap.size w10 w' from vopp_any 5 w10)
       clear hb10 HO HB9
       go_wp2_with fail
       ((with_reducible refine HO2.out.mono ?_); rintro e w11 ⟨rfl, hb11⟩)
       have HB11 := hid (HB10.out.trans (hb11.mono HB10.out.size))
       clear hb11 HO2 HB10
       go_wp2_with fail
       go_ret
       exact ⟨rfl, HB11.out⟩
     · have HO := hid (show Calls Tryz.prog 16 #[.int .i64 7] w9 fun e w' => e = .returned (.tuple #[.int .i64 8, .int .i64 0]) ∧ Below w9.heap.size w9 w' from vopp_any 7 w9)
       go_wp2_with fail
       ((with_reducible refine HO.out.mono ?_); rintro e w10 ⟨rfl, hb10⟩)
       have HB10 := hid (HB9.out.trans (hb10.mono HB9.out.size))
       have HO2 := hid (show Calls Tryz.prog 16 #[.int .i64 8] w10 fun e w' => e = .returned (.tuple #[.int .i64 7, .int .i64 0]) ∧ Below w10.heap.size w10 w' from vopp_any 8 w10)
       clear hb10 HO HB9
       go_wp2_with fail
       ((with_reducible refine HO2.out.mono ?_); rintro e w11 ⟨rfl, hb11⟩)
       have HB11 := hid (HB10.out.trans (hb11.mono HB10.out.size))
       clear hb11 HO2 HB10
       go_wp2_with fail
       go_ret
       exact ⟨rfl, HB11.out⟩
     · have HO := hid (show Calls Tryz.prog 16 #[.int .i64 8] w9 fun e w' => e = .returned (.tuple #[.int .i64 7, .int .i64 0]) ∧ Below w9.heap.size w9 w' from vopp_any 8 w9)
       go_wp2_with fail
       ((with_reducible refine HO.out.mono ?_); rintro e w10 ⟨rfl, hb10⟩)
       have HB10 := hid (HB9.out.trans (hb10.mono HB9.out.size))
       have HO2 := hid (show Calls Tryz.prog 16 #[.int .i64 7] w10 fun e w' => e = .returned (.tuple #[.int .i64 8, .int .i64 0]) ∧ Below w10.heap.size w10 w' from vopp_any 7 w10)
       clear hb10 HO HB9
       go_wp2_with fail
       ((with_reducible refine HO2.out.mono ?_); rintro e w11 ⟨rfl, hb11⟩)
       have HB11 := hid (HB10.out.trans (hb11.mono HB10.out.size))
       clear hb11 HO2 HB10
       go_wp2_with fail
       go_ret
       exact ⟨rfl, HB11.out⟩
     · have HO := hid (show Calls Tryz.prog 16 #[.int .i64 9] w9 fun e w' => e = .returned (.tuple #[.int .i64 10, .int .i64 0]) ∧ Below w9.heap.size w9 w' from vopp_any 9 w9)
       go_wp2_with fail
       ((with_reducible refine HO.out.mono ?_); rintro e w10 ⟨rfl, hb10⟩)
       have HB10 := hid (HB9.out.trans (hb10.mono HB9.out.size))
       have HO2 := hid (show Calls Tryz.prog 16 #[.int .i64 10] w10 fun e w' => e = .returned (.tuple #[.int .i64 9, .int .i64 0]) ∧ Below w10.heap.size w10 w' from vopp_any 10 w10)
       clear hb10 HO HB9
       go_wp2_with fail
       ((with_reducible refine HO2.out.mono ?_); rintro e w11 ⟨rfl, hb11⟩)
       have HB11 := hid (HB10.out.trans (hb11.mono HB10.out.size))
       clear hb11 HO2 HB10
       go_wp2_with fail
       go_ret
       exact ⟨rfl, HB11.out⟩
     · have HO := hid (show Calls Tryz.prog 16 #[.int .i64 10] w9 fun e w' => e = .returned (.tuple #[.int .i64 9, .int .i64 0]) ∧ Below w9.heap.size w9 w' from vopp_any 10 w9)
       go_wp2_with fail
       ((with_reducible refine HO.out.mono ?_); rintro e w10 ⟨rfl, hb10⟩)
       have HB10 := hid (HB9.out.trans (hb10.mono HB9.out.size))
       have HO2 := hid (show Calls Tryz.prog 16 #[.int .i64 9] w10 fun e w' => e = .returned (.tuple #[.int .i64 10, .int .i64 0]) ∧ Below w10.heap.size w10 w' from vopp_any 9 w10)
       clear hb10 HO HB9
       go_wp2_with fail
       ((with_reducible refine HO2.out.mono ?_); rintro e w11 ⟨rfl, hb11⟩)
       have HB11 := hid (HB10.out.trans (hb11.mono HB10.out.size))
       clear hb11 HO2 HB10
       go_wp2_with fail
       go_ret
       exact ⟨rfl, HB11.out⟩
   · go_wp2_with fail
     go_ret
     exact ⟨rfl, HB3.out⟩
 · go_wp2_with fail
   go_ret
   exact ⟨rfl, HB3.out⟩
 · skip
   rcases lens np with ⟨p1, p3, hp2⟩ | ⟨p1, p2⟩ | ⟨p1, p2, p3, hp2⟩ | ⟨p1, p2, p3⟩
   · obtain ⟨xc, hxc⟩ : ∃ x, x = (if givE N L false = 0 then closX N L else false) := ⟨_, rfl⟩
     obtain ⟨gc, hgc⟩ : ∃ x, x = givE N L false := ⟨_, rfl⟩
     obtain ⟨xv, hxv⟩ : ∃ x, x = (if givE N L true = 0 then covX N L else false) := ⟨_, rfl⟩
     obtain ⟨gv, hgv⟩ : ∃ x, x = givE N L true := ⟨_, rfl⟩
     obtain ⟨xp, hxp⟩ : ∃ x, x = (if pumE N R P = 0 then vpumB N R P else false) := ⟨_, rfl⟩
     obtain ⟨gp, hgp⟩ : ∃ x, x = pumE N R P := ⟨_, rfl⟩
     have Exc := hid hxc
     have Egc := hid hgc
     have Exv := hid hxv
     have Egv := hid hgv
     have Exp := hid hxp
     have Egp := hid hgp
     clear hxc hgc hxv hgv hxp hgp
     obtain ⟨b0, b1, b2, b3⟩ := HNb3.out.cells
     have HC := hid (vClosed_any N A n c Am nl cm L w3 HIn3.out HNl.out (by omega) HL3.out HLl.out (by omega))
     rw [← Exc.out, ← Egc.out] at HC
     go_wp2_with fail
     ((with_reducible refine (HC.out).mono ?_); rintro e w4 ⟨rfl, hb4⟩)
     clear HC
     clear b0 b1 b2 b3
     have HB4 := hid (HB3.out.trans (hb4.mono HB3.out.size))
     have HNb4 := hid (HNb3.out.below hb4)
     have HIn4 := hid (HIn3.out.below hb4)
     have HL4 := hid (HL3.out.below hb4)
     have HR4 := hid (HR3.out.below hb4)
     have HP4 := hid (HP3.out.below hb4)
     clear HB3 HNb3 HIn3 HL3 HR3 HP3 hb4
     obtain ⟨b0, b1, b2, b3⟩ := HNb4.out.cells
     have HC := hid (vCover_any N A n c Am nl cm L w4 HIn4.out HNl.out (by omega) HL4.out HLl.out (by omega))
     rw [← Exv.out, ← Egv.out] at HC
     go_wp2_with fail
     ((with_reducible refine (HC.out).mono ?_); rintro e w5 ⟨rfl, hb5⟩)
     clear HC
     clear b0 b1 b2 b3
     have HB5 := hid (HB4.out.trans (hb5.mono HB4.out.size))
     have HNb5 := hid (HNb4.out.below hb5)
     have HIn5 := hid (HIn4.out.below hb5)
     have HL5 := hid (HL4.out.below hb5)
     have HR5 := hid (HR4.out.below hb5)
     have HP5 := hid (HP4.out.below hb5)
     clear HB4 HNb4 HIn4 HL4 HR4 HP4 hb5
     obtain ⟨b0, b1, b2, b3⟩ := HNb5.out.cells
     have HC := hid (vPump_any N A n c Ar nr cr R Ap np cp P w5 HIn5.out HNl.out (by omega) HR5.out HRl.out HP5.out HPl.out)
     rw [← Exp.out, ← Egp.out] at HC
     go_wp2_with fail
     ((with_reducible refine (HC.out).mono ?_); rintro e w6 ⟨rfl, hb6⟩)
     clear HC
     clear b0 b1 b2 b3
     have HB6 := hid (HB5.out.trans (hb6.mono HB5.out.size))
     have HNb6 := hid (HNb5.out.below hb6)
     have HIn6 := hid (HIn5.out.below hb6)
     have HL6 := hid (HL5.out.below hb6)
     have HR6 := hid (HR5.out.below hb6)
     have HP6 := hid (HP5.out.below hb6)
     clear HB5 HNb5 HIn5 HL5 HR5 HP5 hb6
     obtain ⟨b0, b1, b2, b3⟩ := HNb6.out.cells
     have HC := hid (closed29_any N A n c Am nl cm L w6 HIn6.out HNl.out (by omega) HL6.out HLl.out (by omega))
     rw [← Exc.out, ← Egc.out] at HC
     go_wp2_with fail
     ((with_reducible refine (HC.out).mono ?_); rintro e w7 ⟨rfl, hb7⟩)
     clear HC
     clear b0 b1 b2 b3
     have HB7 := hid (HB6.out.trans (hb7.mono HB6.out.size))
     have HNb7 := hid (HNb6.out.below hb7)
     have HIn7 := hid (HIn6.out.below hb7)
     have HL7 := hid (HL6.out.below hb7)
     have HR7 := hid (HR6.out.below hb7)
     have HP7 := hid (HP6.out.below hb7)
     clear HB6 HNb6 HIn6 HL6 HR6 HP6 hb7
     obtain ⟨b0, b1, b2, b3⟩ := HNb7.out.cells
     have HC := hid (cover29_any N A n c Am nl cm L w7 HIn7.out HNl.out (by omega) HL7.out HLl.out (by omega))
     rw [← Exv.out, ← Egv.out] at HC
     go_wp2_with fail
     ((with_reducible refine (HC.out).mono ?_); rintro e w8 ⟨rfl, hb8⟩)
     clear HC
     clear b0 b1 b2 b3
     have HB8 := hid (HB7.out.trans (hb8.mono HB7.out.size))
     have HNb8 := hid (HNb7.out.below hb8)
     have HIn8 := hid (HIn7.out.below hb8)
     have HL8 := hid (HL7.out.below hb8)
     have HR8 := hid (HR7.out.below hb8)
     have HP8 := hid (HP7.out.below hb8)
     clear HB7 HNb7 HIn7 HL7 HR7 HP7 hb8
     obtain ⟨b0, b1, b2, b3⟩ := HNb8.out.cells
     have HC := hid (rPump_any N A n c Ar nr cr R Ap np cp P w8 HIn8.out HNl.out (by omega) HR8.out HRl.out HP8.out HPl.out (by omega) (by omega))
     rw [← Exp.out, ← Egp.out] at HC
     go_wp2_with fail
     ((with_reducible refine (HC.out).mono ?_); rintro e w9 ⟨rfl, hb9⟩)
     clear HC
     clear b0 b1 b2 b3
     have HB9 := hid (HB8.out.trans (hb9.mono HB8.out.size))
     have HNb9 := hid (HNb8.out.below hb9)
     have HIn9 := hid (HIn8.out.below hb9)
     have HL9 := hid (HL8.out.below hb9)
     have HR9 := hid (HR8.out.below hb9)
     have HP9 := hid (HP8.out.below hb9)
     clear HB8 HNb8 HIn8 HL8 HR8 HP8 hb9
     clear HIn9 HNb9 HL9 HR9 HP9 Exc Egc Exv Egv Exp Egp
     have s1 : (xc != xc) = false := by simp
     have s2 : (xv != xv) = false := by simp
     have s3 : (xp != xp) = false := by simp
     have s4 : (gc != gc) = false := by simp
     have s5 : (gv != gv) = false := by simp
     have s6 : (gp != gp) = false := by simp
     have hk : k < 1 ∨ 10 < k ∨ k = 1 ∨ k = 2 ∨ k = 3 ∨ k = 4 ∨ k = 5 ∨ k = 6 ∨ k = 7 ∨ k = 8 ∨ k = 9 ∨ k = 10 := by omega
     rcases hk with hk | hk | rfl | rfl | rfl | rfl | rfl | rfl | rfl | rfl | rfl | rfl
     · have HO := hid (vopp_any k w9)
       rw [(opp_out (.inl hk)).1, (opp_out (.inl hk)).2] at HO
       have q7 : decide (k < 1) = true := by simpa using hk
       clear hk
       go_wp2_with fail
       ((with_reducible refine HO.out.mono ?_); rintro e w10 ⟨rfl, hb10⟩)
       have HB10 := hid (HB9.out.trans (hb10.mono HB9.out.size))
       go_wp2_with fail
       go_ret
       exact ⟨rfl, HB10.out⟩
     · have HO := hid (vopp_any k w9)
       rw [(opp_out (.inr hk)).1, (opp_out (.inr hk)).2] at HO
       have q7 : decide (k < 1) = false := by simp; omega
       have q8 : decide (10 < k) = true := by simpa using hk
       clear hk
       go_wp2_with fail
       ((with_reducible refine HO.out.mono ?_); rintro e w10 ⟨rfl, hb10⟩)
       have HB10 := hid (HB9.out.trans (hb10.mono HB9.out.size))
       go_wp2_with fail
       go_ret
       exact ⟨rfl, HB10.out⟩
     · have HO := hid (show Calls Tryz.prog 16 #[.int .i64 1] w9 fun e w' => e = .returned (.tuple #[.int .i64 2, .int .i64 0]) ∧ Below w9.heap.size w9 w' from vopp_any 1 w9)
       go_wp2_with fail
       ((with_reducible refine HO.out.mono ?_); rintro e w10 ⟨rfl, hb10⟩)
       have HB10 := hid (HB9.out.trans (hb10.mono HB9.out.size))
       have HO2 := hid (show Calls Tryz.prog 16 #[.int .i64 2] w10 fun e w' => e = .returned (.tuple #[.int .i64 1, .int .i64 0]) ∧ Below w10.heap.size w10 w' from vopp_any 2 w10)
       clear hb10 HO HB9
       go_wp2_with fail
       ((with_reducible refine HO2.out.mono ?_); rintro e w11 ⟨rfl, hb11⟩)
       have HB11 := hid (HB10.out.trans (hb11.mono HB10.out.size))
       clear hb11 HO2 HB10
       go_wp2_with fail
       go_ret
       exact ⟨rfl, HB11.out⟩
     · have HO := hid (show Calls Tryz.prog 16 #[.int .i64 2] w9 fun e w' => e = .returned (.tuple #[.int .i64 1, .int .i64 0]) ∧ Below w9.heap.size w9 w' from vopp_any 2 w9)
       go_wp2_with fail
       ((with_reducible refine HO.out.mono ?_); rintro e w10 ⟨rfl, hb10⟩)
       have HB10 := hid (HB9.out.trans (hb10.mono HB9.out.size))
       have HO2 := hid (show Calls Tryz.prog 16 #[.int .i64 1] w10 fun e w' => e = .returned (.tuple #[.int .i64 2, .int .i64 0]) ∧ Below w10.heap.size w10 w' from vopp_any 1 w10)
       clear hb10 HO HB9
       go_wp2_with fail
       ((with_reducible refine HO2.out.mono ?_); rintro e w11 ⟨rfl, hb11⟩)
       have HB11 := hid (HB10.out.trans (hb11.mono HB10.out.size))
       clear hb11 HO2 HB10
       go_wp2_with fail
       go_ret
       exact ⟨rfl, HB11.out⟩
     · have HO := hid (show Calls Tryz.prog 16 #[.int .i64 3] w9 fun e w' => e = .returned (.tuple #[.int .i64 4, .int .i64 0]) ∧ Below w9.heap.size w9 w' from vopp_any 3 w9)
       go_wp2_with fail
       ((with_reducible refine HO.out.mono ?_); rintro e w10 ⟨rfl, hb10⟩)
       have HB10 := hid (HB9.out.trans (hb10.mono HB9.out.size))
       have HO2 := hid (show Calls Tryz.prog 16 #[.int .i64 4] w10 fun e w' => e = .returned (.tuple #[.int .i64 3, .int .i64 0]) ∧ Below w10.heap.size w10 w' from vopp_any 4 w10)
       clear hb10 HO HB9
       go_wp2_with fail
       ((with_reducible refine HO2.out.mono ?_); rintro e w11 ⟨rfl, hb11⟩)
       have HB11 := hid (HB10.out.trans (hb11.mono HB10.out.size))
       clear hb11 HO2 HB10
       go_wp2_with fail
       go_ret
       exact ⟨rfl, HB11.out⟩
     · have HO := hid (show Calls Tryz.prog 16 #[.int .i64 4] w9 fun e w' => e = .returned (.tuple #[.int .i64 3, .int .i64 0]) ∧ Below w9.heap.size w9 w' from vopp_any 4 w9)
       go_wp2_with fail
       ((with_reducible refine HO.out.mono ?_); rintro e w10 ⟨rfl, hb10⟩)
       have HB10 := hid (HB9.out.trans (hb10.mono HB9.out.size))
       have HO2 := hid (show Calls Tryz.prog 16 #[.int .i64 3] w10 fun e w' => e = .returned (.tuple #[.int .i64 4, .int .i64 0]) ∧ Below w10.heap.size w10 w' from vopp_any 3 w10)
       clear hb10 HO HB9
       go_wp2_with fail
       ((with_reducible refine HO2.out.mono ?_); rintro e w11 ⟨rfl, hb11⟩)
       have HB11 := hid (HB10.out.trans (hb11.mono HB10.out.size))
       clear hb11 HO2 HB10
       go_wp2_with fail
       go_ret
       exact ⟨rfl, HB11.out⟩
     · have HO := hid (show Calls Tryz.prog 16 #[.int .i64 5] w9 fun e w' => e = .returned (.tuple #[.int .i64 6, .int .i64 0]) ∧ Below w9.heap.size w9 w' from vopp_any 5 w9)
       go_wp2_with fail
       ((with_reducible refine HO.out.mono ?_); rintro e w10 ⟨rfl, hb10⟩)
       have HB10 := hid (HB9.out.trans (hb10.mono HB9.out.size))
       have HO2 := hid (show Calls Tryz.prog 16 #[.int .i64 6] w10 fun e w' => e = .returned (.tuple #[.int .i64 5, .int .i64 0]) ∧ Below w10.heap.size w10 w' from vopp_any 6 w10)
       clear hb10 HO HB9
       go_wp2_with fail
       ((with_reducible refine HO2.out.mono ?_); rintro e w11 ⟨rfl, hb11⟩)
       have HB11 := hid (HB10.out.trans (hb11.mono HB10.out.size))
       clear hb11 HO2 HB10
       go_wp2_with fail
       go_ret
       exact ⟨rfl, HB11.out⟩
     · have HO := hid (show Calls Tryz.prog 16 #[.int .i64 6] w9 fun e w' => e = .returned (.tuple #[.int .i64 5, .int .i64 0]) ∧ Below w9.heap.size w9 w' from vopp_any 6 w9)
       go_wp2_with fail
       ((with_reducible refine HO.out.mono ?_); rintro e w10 ⟨rfl, hb10⟩)
       have HB10 := hid (HB9.out.trans (hb10.mono HB9.out.size))
       have HO2 := hid (show Calls Tryz.prog 16 #[.int .i64 5] w10 fun e w' => e = .returned (.tuple #[.int .i64 6, .int .i64 0]) ∧ Below w10.heap.size w10 w' from vopp_any 5 w10)
       clear hb10 HO HB9
       go_wp2_with fail
       ((with_reducible refine HO2.out.mono ?_); rintro e w11 ⟨rfl, hb11⟩)
       have HB11 := hid (HB10.out.trans (hb11.mono HB10.out.size))
       clear hb11 HO2 HB10
       go_wp2_with fail
       go_ret
       exact ⟨rfl, HB11.out⟩
     · have HO := hid (show Calls Tryz.prog 16 #[.int .i64 7] w9 fun e w' => e = .returned (.tuple #[.int .i64 8, .int .i64 0]) ∧ Below w9.heap.size w9 w' from vopp_any 7 w9)
       go_wp2_with fail
       ((with_reducible refine HO.out.mono ?_); rintro e w10 ⟨rfl, hb10⟩)
       have HB10 := hid (HB9.out.trans (hb10.mono HB9.out.size))
       have HO2 := hid (show Calls Tryz.prog 16 #[.int .i64 8] w10 fun e w' => e = .returned (.tuple #[.int .i64 7, .int .i64 0]) ∧ Below w10.heap.size w10 w' from vopp_any 8 w10)
       clear hb10 HO HB9
       go_wp2_with fail
       ((with_reducible refine HO2.out.mono ?_); rintro e w11 ⟨rfl, hb11⟩)
       have HB11 := hid (HB10.out.trans (hb11.mono HB10.out.size))
       clear hb11 HO2 HB10
       go_wp2_with fail
       go_ret
       exact ⟨rfl, HB11.out⟩
     · have HO := hid (show Calls Tryz.prog 16 #[.int .i64 8] w9 fun e w' => e = .returned (.tuple #[.int .i64 7, .int .i64 0]) ∧ Below w9.heap.size w9 w' from vopp_any 8 w9)
       go_wp2_with fail
       ((with_reducible refine HO.out.mono ?_); rintro e w10 ⟨rfl, hb10⟩)
       have HB10 := hid (HB9.out.trans (hb10.mono HB9.out.size))
       have HO2 := hid (show Calls Tryz.prog 16 #[.int .i64 7] w10 fun e w' => e = .returned (.tuple #[.int .i64 8, .int .i64 0]) ∧ Below w10.heap.size w10 w' from vopp_any 7 w10)
       clear hb10 HO HB9
       go_wp2_with fail
       ((with_reducible refine HO2.out.mono ?_); rintro e w11 ⟨rfl, hb11⟩)
       have HB11 := hid (HB10.out.trans (hb11.mono HB10.out.size))
       clear hb11 HO2 HB10
       go_wp2_with fail
       go_ret
       exact ⟨rfl, HB11.out⟩
     · have HO := hid (show Calls Tryz.prog 16 #[.int .i64 9] w9 fun e w' => e = .returned (.tuple #[.int .i64 10, .int .i64 0]) ∧ Below w9.heap.size w9 w' from vopp_any 9 w9)
       go_wp2_with fail
       ((with_reducible refine HO.out.mono ?_); rintro e w10 ⟨rfl, hb10⟩)
       have HB10 := hid (HB9.out.trans (hb10.mono HB9.out.size))
       have HO2 := hid (show Calls Tryz.prog 16 #[.int .i64 10] w10 fun e w' => e = .returned (.tuple #[.int .i64 9, .int .i64 0]) ∧ Below w10.heap.size w10 w' from vopp_any 10 w10)
       clear hb10 HO HB9
       go_wp2_with fail
       ((with_reducible refine HO2.out.mono ?_); rintro e w11 ⟨rfl, hb11⟩)
       have HB11 := hid (HB10.out.trans (hb11.mono HB10.out.size))
       clear hb11 HO2 HB10
       go_wp2_with fail
       go_ret
       exact ⟨rfl, HB11.out⟩
     · have HO := hid (show Calls Tryz.prog 16 #[.int .i64 10] w9 fun e w' => e = .returned (.tuple #[.int .i64 9, .int .i64 0]) ∧ Below w9.heap.size w9 w' from vopp_any 10 w9)
       go_wp2_with fail
       ((with_reducible refine HO.out.mono ?_); rintro e w10 ⟨rfl, hb10⟩)
       have HB10 := hid (HB9.out.trans (hb10.mono HB9.out.size))
       have HO2 := hid (show Calls Tryz.prog 16 #[.int .i64 9] w10 fun e w' => e = .returned (.tuple #[.int .i64 10, .int .i64 0]) ∧ Below w10.heap.size w10 w' from vopp_any 9 w10)
       clear hb10 HO HB9
       go_wp2_with fail
       ((with_reducible refine HO2.out.mono ?_); rintro e w11 ⟨rfl, hb11⟩)
       have HB11 := hid (HB10.out.trans (hb11.mono HB10.out.size))
       clear hb11 HO2 HB10
       go_wp2_with fail
       go_ret
       exact ⟨rfl, HB11.out⟩
   · go_wp2_with fail
     go_ret
     exact ⟨rfl, HB3.out⟩
   · obtain ⟨xc, hxc⟩ : ∃ x, x = (if givE N L false = 0 then closX N L else false) := ⟨_, rfl⟩
     obtain ⟨gc, hgc⟩ : ∃ x, x = givE N L false := ⟨_, rfl⟩
     obtain ⟨xv, hxv⟩ : ∃ x, x = (if givE N L true = 0 then covX N L else false) := ⟨_, rfl⟩
     obtain ⟨gv, hgv⟩ : ∃ x, x = givE N L true := ⟨_, rfl⟩
     obtain ⟨xp, hxp⟩ : ∃ x, x = (if pumE N R P = 0 then vpumB N R P else false) := ⟨_, rfl⟩
     obtain ⟨gp, hgp⟩ : ∃ x, x = pumE N R P := ⟨_, rfl⟩
     have Exc := hid hxc
     have Egc := hid hgc
     have Exv := hid hxv
     have Egv := hid hgv
     have Exp := hid hxp
     have Egp := hid hgp
     clear hxc hgc hxv hgv hxp hgp
     obtain ⟨b0, b1, b2, b3⟩ := HNb3.out.cells
     have HC := hid (vClosed_any N A n c Am nl cm L w3 HIn3.out HNl.out (by omega) HL3.out HLl.out (by omega))
     rw [← Exc.out, ← Egc.out] at HC
     go_wp2_with fail
     ((with_reducible refine (HC.out).mono ?_); rintro e w4 ⟨rfl, hb4⟩)
     clear HC
     clear b0 b1 b2 b3
     have HB4 := hid (HB3.out.trans (hb4.mono HB3.out.size))
     have HNb4 := hid (HNb3.out.below hb4)
     have HIn4 := hid (HIn3.out.below hb4)
     have HL4 := hid (HL3.out.below hb4)
     have HR4 := hid (HR3.out.below hb4)
     have HP4 := hid (HP3.out.below hb4)
     clear HB3 HNb3 HIn3 HL3 HR3 HP3 hb4
     obtain ⟨b0, b1, b2, b3⟩ := HNb4.out.cells
     have HC := hid (vCover_any N A n c Am nl cm L w4 HIn4.out HNl.out (by omega) HL4.out HLl.out (by omega))
     rw [← Exv.out, ← Egv.out] at HC
     go_wp2_with fail
     ((with_reducible refine (HC.out).mono ?_); rintro e w5 ⟨rfl, hb5⟩)
     clear HC
     clear b0 b1 b2 b3
     have HB5 := hid (HB4.out.trans (hb5.mono HB4.out.size))
     have HNb5 := hid (HNb4.out.below hb5)
     have HIn5 := hid (HIn4.out.below hb5)
     have HL5 := hid (HL4.out.below hb5)
     have HR5 := hid (HR4.out.below hb5)
     have HP5 := hid (HP4.out.below hb5)
     clear HB4 HNb4 HIn4 HL4 HR4 HP4 hb5
     obtain ⟨b0, b1, b2, b3⟩ := HNb5.out.cells
     have HC := hid (vPump_any N A n c Ar nr cr R Ap np cp P w5 HIn5.out HNl.out (by omega) HR5.out HRl.out HP5.out HPl.out)
     rw [← Exp.out, ← Egp.out] at HC
     go_wp2_with fail
     ((with_reducible refine (HC.out).mono ?_); rintro e w6 ⟨rfl, hb6⟩)
     clear HC
     clear b0 b1 b2 b3
     have HB6 := hid (HB5.out.trans (hb6.mono HB5.out.size))
     have HNb6 := hid (HNb5.out.below hb6)
     have HIn6 := hid (HIn5.out.below hb6)
     have HL6 := hid (HL5.out.below hb6)
     have HR6 := hid (HR5.out.below hb6)
     have HP6 := hid (HP5.out.below hb6)
     clear HB5 HNb5 HIn5 HL5 HR5 HP5 hb6
     obtain ⟨b0, b1, b2, b3⟩ := HNb6.out.cells
     have HC := hid (closed29_any N A n c Am nl cm L w6 HIn6.out HNl.out (by omega) HL6.out HLl.out (by omega))
     rw [← Exc.out, ← Egc.out] at HC
     go_wp2_with fail
     ((with_reducible refine (HC.out).mono ?_); rintro e w7 ⟨rfl, hb7⟩)
     clear HC
     clear b0 b1 b2 b3
     have HB7 := hid (HB6.out.trans (hb7.mono HB6.out.size))
     have HNb7 := hid (HNb6.out.below hb7)
     have HIn7 := hid (HIn6.out.below hb7)
     have HL7 := hid (HL6.out.below hb7)
     have HR7 := hid (HR6.out.below hb7)
     have HP7 := hid (HP6.out.below hb7)
     clear HB6 HNb6 HIn6 HL6 HR6 HP6 hb7
     obtain ⟨b0, b1, b2, b3⟩ := HNb7.out.cells
     have HC := hid (cover29_any N A n c Am nl cm L w7 HIn7.out HNl.out (by omega) HL7.out HLl.out (by omega))
     rw [← Exv.out, ← Egv.out] at HC
     go_wp2_with fail
     ((with_reducible refine (HC.out).mono ?_); rintro e w8 ⟨rfl, hb8⟩)
     clear HC
     clear b0 b1 b2 b3
     have HB8 := hid (HB7.out.trans (hb8.mono HB7.out.size))
     have HNb8 := hid (HNb7.out.below hb8)
     have HIn8 := hid (HIn7.out.below hb8)
     have HL8 := hid (HL7.out.below hb8)
     have HR8 := hid (HR7.out.below hb8)
     have HP8 := hid (HP7.out.below hb8)
     clear HB7 HNb7 HIn7 HL7 HR7 HP7 hb8
     obtain ⟨b0, b1, b2, b3⟩ := HNb8.out.cells
     have HC := hid (rPump_any N A n c Ar nr cr R Ap np cp P w8 HIn8.out HNl.out (by omega) HR8.out HRl.out HP8.out HPl.out (by omega) (by omega))
     rw [← Exp.out, ← Egp.out] at HC
     go_wp2_with fail
     ((with_reducible refine (HC.out).mono ?_); rintro e w9 ⟨rfl, hb9⟩)
     clear HC
     clear b0 b1 b2 b3
     have HB9 := hid (HB8.out.trans (hb9.mono HB8.out.size))
     have HNb9 := hid (HNb8.out.below hb9)
     have HIn9 := hid (HIn8.out.below hb9)
     have HL9 := hid (HL8.out.below hb9)
     have HR9 := hid (HR8.out.below hb9)
     have HP9 := hid (HP8.out.below hb9)
     clear HB8 HNb8 HIn8 HL8 HR8 HP8 hb9
     clear HIn9 HNb9 HL9 HR9 HP9 Exc Egc Exv Egv Exp Egp
     have s1 : (xc != xc) = false := by simp
     have s2 : (xv != xv) = false := by simp
     have s3 : (xp != xp) = false := by simp
     have s4 : (gc != gc) = false := by simp
     have s5 : (gv != gv) = false := by simp
     have s6 : (gp != gp) = false := by simp
     have hk : k < 1 ∨ 10 < k ∨ k = 1 ∨ k = 2 ∨ k = 3 ∨ k = 4 ∨ k = 5 ∨ k = 6 ∨ k = 7 ∨ k = 8 ∨ k = 9 ∨ k = 10 := by omega
     rcases hk with hk | hk | rfl | rfl | rfl | rfl | rfl | rfl | rfl | rfl | rfl | rfl
     · have HO := hid (vopp_any k w9)
       rw [(opp_out (.inl hk)).1, (opp_out (.inl hk)).2] at HO
       have q7 : decide (k < 1) = true := by simpa using hk
       clear hk
       go_wp2_with fail
       ((with_reducible refine HO.out.mono ?_); rintro e w10 ⟨rfl, hb10⟩)
       have HB10 := hid (HB9.out.trans (hb10.mono HB9.out.size))
       go_wp2_with fail
       go_ret
       exact ⟨rfl, HB10.out⟩
     · have HO := hid (vopp_any k w9)
       rw [(opp_out (.inr hk)).1, (opp_out (.inr hk)).2] at HO
       have q7 : decide (k < 1) = false := by simp; omega
       have q8 : decide (10 < k) = true := by simpa using hk
       clear hk
       go_wp2_with fail
       ((with_reducible refine HO.out.mono ?_); rintro e w10 ⟨rfl, hb10⟩)
       have HB10 := hid (HB9.out.trans (hb10.mono HB9.out.size))
       go_wp2_with fail
       go_ret
       exact ⟨rfl, HB10.out⟩
     · have HO := hid (show Calls Tryz.prog 16 #[.int .i64 1] w9 fun e w' => e = .returned (.tuple #[.int .i64 2, .int .i64 0]) ∧ Below w9.heap.size w9 w' from vopp_any 1 w9)
       go_wp2_with fail
       ((with_reducible refine HO.out.mono ?_); rintro e w10 ⟨rfl, hb10⟩)
       have HB10 := hid (HB9.out.trans (hb10.mono HB9.out.size))
       have HO2 := hid (show Calls Tryz.prog 16 #[.int .i64 2] w10 fun e w' => e = .returned (.tuple #[.int .i64 1, .int .i64 0]) ∧ Below w10.heap.size w10 w' from vopp_any 2 w10)
       clear hb10 HO HB9
       go_wp2_with fail
       ((with_reducible refine HO2.out.mono ?_); rintro e w11 ⟨rfl, hb11⟩)
       have HB11 := hid (HB10.out.trans (hb11.mono HB10.out.size))
       clear hb11 HO2 HB10
       go_wp2_with fail
       go_ret
       exact ⟨rfl, HB11.out⟩
     · have HO := hid (show Calls Tryz.prog 16 #[.int .i64 2] w9 fun e w' => e = .returned (.tuple #[.int .i64 1, .int .i64 0]) ∧ Below w9.heap.size w9 w' from vopp_any 2 w9)
       go_wp2_with fail
       ((with_reducible refine HO.out.mono ?_); rintro e w10 ⟨rfl, hb10⟩)
       have HB10 := hid (HB9.out.trans (hb10.mono HB9.out.size))
       have HO2 := hid (show Calls Tryz.prog 16 #[.int .i64 1] w10 fun e w' => e = .returned (.tuple #[.int .i64 2, .int .i64 0]) ∧ Below w10.heap.size w10 w' from vopp_any 1 w10)
       clear hb10 HO HB9
       go_wp2_with fail
       ((with_reducible refine HO2.out.mono ?_); rintro e w11 ⟨rfl, hb11⟩)
       have HB11 := hid (HB10.out.trans (hb11.mono HB10.out.size))
       clear hb11 HO2 HB10
       go_wp2_with fail
       go_ret
       exact ⟨rfl, HB11.out⟩
     · have HO := hid (show Calls Tryz.prog 16 #[.int .i64 3] w9 fun e w' => e = .returned (.tuple #[.int .i64 4, .int .i64 0]) ∧ Below w9.heap.size w9 w' from vopp_any 3 w9)
       go_wp2_with fail
       ((with_reducible refine HO.out.mono ?_); rintro e w10 ⟨rfl, hb10⟩)
       have HB10 := hid (HB9.out.trans (hb10.mono HB9.out.size))
       have HO2 := hid (show Calls Tryz.prog 16 #[.int .i64 4] w10 fun e w' => e = .returned (.tuple #[.int .i64 3, .int .i64 0]) ∧ Below w10.heap.size w10 w' from vopp_any 4 w10)
       clear hb10 HO HB9
       go_wp2_with fail
       ((with_reducible refine HO2.out.mono ?_); rintro e w11 ⟨rfl, hb11⟩)
       have HB11 := hid (HB10.out.trans (hb11.mono HB10.out.size))
       clear hb11 HO2 HB10
       go_wp2_with fail
       go_ret
       exact ⟨rfl, HB11.out⟩
     · have HO := hid (show Calls Tryz.prog 16 #[.int .i64 4] w9 fun e w' => e = .returned (.tuple #[.int .i64 3, .int .i64 0]) ∧ Below w9.heap.size w9 w' from vopp_any 4 w9)
       go_wp2_with fail
       ((with_reducible refine HO.out.mono ?_); rintro e w10 ⟨rfl, hb10⟩)
       have HB10 := hid (HB9.out.trans (hb10.mono HB9.out.size))
       have HO2 := hid (show Calls Tryz.prog 16 #[.int .i64 3] w10 fun e w' => e = .returned (.tuple #[.int .i64 4, .int .i64 0]) ∧ Below w10.heap.size w10 w' from vopp_any 3 w10)
       clear hb10 HO HB9
       go_wp2_with fail
       ((with_reducible refine HO2.out.mono ?_); rintro e w11 ⟨rfl, hb11⟩)
       have HB11 := hid (HB10.out.trans (hb11.mono HB10.out.size))
       clear hb11 HO2 HB10
       go_wp2_with fail
       go_ret
       exact ⟨rfl, HB11.out⟩
     · have HO := hid (show Calls Tryz.prog 16 #[.int .i64 5] w9 fun e w' => e = .returned (.tuple #[.int .i64 6, .int .i64 0]) ∧ Below w9.heap.size w9 w' from vopp_any 5 w9)
       go_wp2_with fail
       ((with_reducible refine HO.out.mono ?_); rintro e w10 ⟨rfl, hb10⟩)
       have HB10 := hid (HB9.out.trans (hb10.mono HB9.out.size))
       have HO2 := hid (show Calls Tryz.prog 16 #[.int .i64 6] w10 fun e w' => e = .returned (.tuple #[.int .i64 5, .int .i64 0]) ∧ Below w10.heap.size w10 w' from vopp_any 6 w10)
       clear hb10 HO HB9
       go_wp2_with fail
       ((with_reducible refine HO2.out.mono ?_); rintro e w11 ⟨rfl, hb11⟩)
       have HB11 := hid (HB10.out.trans (hb11.mono HB10.out.size))
       clear hb11 HO2 HB10
       go_wp2_with fail
       go_ret
       exact ⟨rfl, HB11.out⟩
     · have HO := hid (show Calls Tryz.prog 16 #[.int .i64 6] w9 fun e w' => e = .returned (.tuple #[.int .i64 5, .int .i64 0]) ∧ Below w9.heap.size w9 w' from vopp_any 6 w9)
       go_wp2_with fail
       ((with_reducible refine HO.out.mono ?_); rintro e w10 ⟨rfl, hb10⟩)
       have HB10 := hid (HB9.out.trans (hb10.mono HB9.out.size))
       have HO2 := hid (show Calls Tryz.prog 16 #[.int .i64 5] w10 fun e w' => e = .returned (.tuple #[.int .i64 6, .int .i64 0]) ∧ Below w10.heap.size w10 w' from vopp_any 5 w10)
       clear hb10 HO HB9
       go_wp2_with fail
       ((with_reducible refine HO2.out.mono ?_); rintro e w11 ⟨rfl, hb11⟩)
       have HB11 := hid (HB10.out.trans (hb11.mono HB10.out.size))
       clear hb11 HO2 HB10
       go_wp2_with fail
       go_ret
       exact ⟨rfl, HB11.out⟩
     · have HO := hid (show Calls Tryz.prog 16 #[.int .i64 7] w9 fun e w' => e = .returned (.tuple #[.int .i64 8, .int .i64 0]) ∧ Below w9.heap.size w9 w' from vopp_any 7 w9)
       go_wp2_with fail
       ((with_reducible refine HO.out.mono ?_); rintro e w10 ⟨rfl, hb10⟩)
       have HB10 := hid (HB9.out.trans (hb10.mono HB9.out.size))
       have HO2 := hid (show Calls Tryz.prog 16 #[.int .i64 8] w10 fun e w' => e = .returned (.tuple #[.int .i64 7, .int .i64 0]) ∧ Below w10.heap.size w10 w' from vopp_any 8 w10)
       clear hb10 HO HB9
       go_wp2_with fail
       ((with_reducible refine HO2.out.mono ?_); rintro e w11 ⟨rfl, hb11⟩)
       have HB11 := hid (HB10.out.trans (hb11.mono HB10.out.size))
       clear hb11 HO2 HB10
       go_wp2_with fail
       go_ret
       exact ⟨rfl, HB11.out⟩
     · have HO := hid (show Calls Tryz.prog 16 #[.int .i64 8] w9 fun e w' => e = .returned (.tuple #[.int .i64 7, .int .i64 0]) ∧ Below w9.heap.size w9 w' from vopp_any 8 w9)
       go_wp2_with fail
       ((with_reducible refine HO.out.mono ?_); rintro e w10 ⟨rfl, hb10⟩)
       have HB10 := hid (HB9.out.trans (hb10.mono HB9.out.size))
       have HO2 := hid (show Calls Tryz.prog 16 #[.int .i64 7] w10 fun e w' => e = .returned (.tuple #[.int .i64 8, .int .i64 0]) ∧ Below w10.heap.size w10 w' from vopp_any 7 w10)
       clear hb10 HO HB9
       go_wp2_with fail
       ((with_reducible refine HO2.out.mono ?_); rintro e w11 ⟨rfl, hb11⟩)
       have HB11 := hid (HB10.out.trans (hb11.mono HB10.out.size))
       clear hb11 HO2 HB10
       go_wp2_with fail
       go_ret
       exact ⟨rfl, HB11.out⟩
     · have HO := hid (show Calls Tryz.prog 16 #[.int .i64 9] w9 fun e w' => e = .returned (.tuple #[.int .i64 10, .int .i64 0]) ∧ Below w9.heap.size w9 w' from vopp_any 9 w9)
       go_wp2_with fail
       ((with_reducible refine HO.out.mono ?_); rintro e w10 ⟨rfl, hb10⟩)
       have HB10 := hid (HB9.out.trans (hb10.mono HB9.out.size))
       have HO2 := hid (show Calls Tryz.prog 16 #[.int .i64 10] w10 fun e w' => e = .returned (.tuple #[.int .i64 9, .int .i64 0]) ∧ Below w10.heap.size w10 w' from vopp_any 10 w10)
       clear hb10 HO HB9
       go_wp2_with fail
       ((with_reducible refine HO2.out.mono ?_); rintro e w11 ⟨rfl, hb11⟩)
       have HB11 := hid (HB10.out.trans (hb11.mono HB10.out.size))
       clear hb11 HO2 HB10
       go_wp2_with fail
       go_ret
       exact ⟨rfl, HB11.out⟩
     · have HO := hid (show Calls Tryz.prog 16 #[.int .i64 10] w9 fun e w' => e = .returned (.tuple #[.int .i64 9, .int .i64 0]) ∧ Below w9.heap.size w9 w' from vopp_any 10 w9)
       go_wp2_with fail
       ((with_reducible refine HO.out.mono ?_); rintro e w10 ⟨rfl, hb10⟩)
       have HB10 := hid (HB9.out.trans (hb10.mono HB9.out.size))
       have HO2 := hid (show Calls Tryz.prog 16 #[.int .i64 9] w10 fun e w' => e = .returned (.tuple #[.int .i64 10, .int .i64 0]) ∧ Below w10.heap.size w10 w' from vopp_any 9 w10)
       clear hb10 HO HB9
       go_wp2_with fail
       ((with_reducible refine HO2.out.mono ?_); rintro e w11 ⟨rfl, hb11⟩)
       have HB11 := hid (HB10.out.trans (hb11.mono HB10.out.size))
       clear hb11 HO2 HB10
       go_wp2_with fail
       go_ret
       exact ⟨rfl, HB11.out⟩
   · go_wp2_with fail
     go_ret
     exact ⟨rfl, HB3.out⟩
 · go_wp2_with fail
   go_ret
   exact ⟨rfl, HB3.out⟩
end Go.Proofs.YtpnhcimmlnjfaaaGreatDoor
