/- SameRow, in, below, after, Extended of reference 29: what a call returns. -/
import Derived.Test.YtpnhcimmlnjfaaaGreatDoorYb
import Derived.Test.YtpnhcimmlnjfaaaGreatDoorIc
namespace Go.Proofs.YtpnhcimmlnjfaaaGreatDoor
open Go.Lib (hid)
open Go.RowKit

/-- a place has a token -/
def enP (M : List Int) (p : Int) : Bool := decide (M.getD p.toNat 0 ≠ 0)
/-- what after returns -/
def AfPo (c : Bool) (R : List Int) (w : World) (e : Ending) (w' : World) : Prop := if c = true then ∃ v, e = .returned (.tuple #[v, .bool true, .bool (!(bigM R))]) ∧ NS w w' v R else e = .returned (.tuple #[.slice none 0 0, .bool false, .bool false]) ∧ Below w.heap.size w w'
theorem AfPo.no {c : Bool} {R : List Int} {w w' : World} {e : Ending} (h : c = false) (he : e = .returned (.tuple #[.slice none 0 0, .bool false, .bool false])) (hb : Below w.heap.size w w') : AfPo c R w e w' := by
 subst h; unfold AfPo; rw [if_neg (by decide)]; exact ⟨he, hb⟩
theorem AfPo.yes {c : Bool} {R : List Int} {w w' : World} {e : Ending} {v : Value} (h : c = true) (he : e = .returned (.tuple #[v, .bool true, .bool (!(bigM R))])) (hs : NS w w' v R) : AfPo c R w e w' := by
 subst h; unfold AfPo; rw [if_pos rfl]; exact ⟨v, he, hs⟩
theorem af_no {P : Program} {f : FuncId} {args : Array Value} {w : World} {c : Bool} {L : List Int} (h : Calls P f args w (AfPo c L w)) (h0 : c = false) : Calls P f args w fun e w' => e = .returned (.tuple #[.slice none 0 0, .bool false, .bool false]) ∧ Below w.heap.size w w' :=
 h.mono fun e w' h1 => by unfold AfPo at h1; rw [if_neg (by rw [h0]; decide)] at h1; exact h1
theorem af_yes {P : Program} {f : FuncId} {args : Array Value} {w : World} {c : Bool} {L : List Int} (h : Calls P f args w (AfPo c L w)) (h0 : c = true) : Calls P f args w fun e w' => ∃ v, e = .returned (.tuple #[v, .bool true, .bool (!(bigM L))]) ∧ NS w w' v L :=
 h.mono fun e w' h1 => by unfold AfPo at h1; rw [if_pos h0] at h1; exact h1
set_option maxHeartbeats 3200000 in
set_option maxRecDepth 100000 in
theorem below29_any (Ax : Option Addr) (nx cx : Nat) (X : List Int) (Al : Option Addr) (nl cl : Nat) (LL : List (List Int)) (w : World) (hx : ZIn w Ax X) (hxl : X.length = nx) (hL : LIn w Al LL) (hl : LL.length = nl) (hl2 : nl ≤ 9223372036854775806) (hle : ∀ s ∈ LL, nx ≤ s.length) :
 Calls Tryz.prog 43 #[.slice Ax nx cx, .slice Al nl cl] w fun e w' => e = .returned (.bool (belowB LL X)) ∧ Below w.heap.size w w' := by
 have HX := hid hx
 have HXl := hid hxl
 have HL := hid hL
 have HLl := hid hl
 have HLe := hid hle
 clear hx hxl hL hl hle
 go_enter Tryz.func43, Tryz.ntmps43
 go_wp2_with fail
 go_loopg [5] (nl) (fun g iv wr => ∃ k : Nat, k + g = nl ∧ iv = .int .i64 k ∧ (LL.take k).any (atMost X) = false ∧ Below w.heap.size w wr)
 case atStart => exact ⟨0, by omega, rfl, by simp, Below.refl _ _⟩
 case round =>
  obtain ⟨k, hk, rfl, hp, hB⟩ := hrel
  have HB := hid hB
  have HK := hid hk
  have HP := hid hp
  have HLr := hid (HL.out.below hB)
  have hle : k ≤ nl := by omega
  clear hk hp hB
  by_cases hlt : k < nl
  · have hlt' : k < LL.length := by rw [HLl.out]; exact hlt
    obtain ⟨ad, rfl, hpa, u, q0, Ay, ny, cy, rfl, zy, hy1, hy2, hy3⟩ := HLr.out k hlt'
    have HTk := hid (any_step (atMost X) hlt')
    have HYes := hid (fun (hh : atMost X LL[k] = true) => show LL.any (atMost X) = true from List.any_eq_true.2 ⟨_, List.getElem_mem hlt', hh⟩)
    have hnm := HLe.out _ (List.getElem_mem hlt')
    generalize LL[k] = Y at *
    have HAm := hid (atmost_any Ax nx cx Ay ny cy X Y wr (HX.out.below HB.out) HXl.out zy hy1 (by omega) (by omega))
    clear hlt' zy hy1 hnm
    cases ha : atMost X Y with
    | true =>
     rw [ha] at HAm
     have HV := hid (HYes.out ha)
     clear ha HYes
     go_wp2_with fail
     ((with_reducible refine HAm.out.mono ?_); rintro e w1 ⟨rfl, hb1⟩)
     have HB1 := hid (below_then HB.out hb1)
     go_wp2_with fail
     go_ret
     exact ⟨ret_bool HV.out.symm, HB1.out⟩
    | false =>
     rw [ha] at HAm
     have HV := hid (show (LL.take (k + 1)).any (atMost X) = false by rw [HTk.out, HP.out, ha]; rfl)
     clear ha HYes
     go_wp2_with fail
     ((with_reducible refine HAm.out.mono ?_); rintro e w1 ⟨rfl, hb1⟩)
     have HB1 := hid (below_then HB.out hb1)
     clear hb1
     go_wp2_with fail
     go_roundg (gk - 1)
     case measure => have := HK.out; omega
     case rel => exact ⟨k + 1, by have := HK.out; omega, by go_num, HV.out, HB1.out⟩
  · have HV := hid (show belowB LL X = false by unfold belowB; have := HP.out; rwa [List.take_of_length_le (by rw [HLl.out]; omega)] at this)
    go_wp2_with fail
    go_ret
    exact ⟨ret_bool HV.out.symm, HB.out⟩
theorem same_false {X Y : List Int} {k : Nat} (hx : k < X.length) (hy : k < Y.length) (h : X[k] ≠ Y[k]) : decide (X = Y) = false := by
 rw [decide_eq_false]; intro e; subst e; exact h rfl
set_option maxHeartbeats 3200000 in
set_option maxRecDepth 100000 in
theorem samerow_any (Ax : Option Addr) (nx cx : Nat) (X : List Int) (Ay : Option Addr) (ny cy : Nat) (Y : List Int) (w : World) (hX : ZIn w Ax X) (hx : X.length = nx) (hY : ZIn w Ay Y) (hy : Y.length = ny) (hx2 : nx ≤ 9223372036854775807) (hy2 : ny ≤ 9223372036854775807) :
 Calls Tryz.prog 47 #[.slice Ax nx cx, .slice Ay ny cy] w fun e w' => e = .returned (.bool (decide (X = Y))) ∧ Below w.heap.size w w' := by
 have HX := hid hX
 have HY := hid hY
 have HXl := hid hx
 have HYl := hid hy
 have HQ := hid (show ∃ q, q = decide (X = Y) from ⟨_, rfl⟩)
 clear hX hY hx hy HQ
 by_cases hne : nx = ny
 rotate_left
 · have q1 : ((nx : Int) != (ny : Int)) = true := by rw [bne_iff_ne]; omega
   have HV := hid (show decide (X = Y) = false by rw [decide_eq_false]; intro e; apply hne; rw [← HXl.out, ← HYl.out, e])
   clear hne
   go_enter Tryz.func47, Tryz.ntmps47
   go_wp2_with fail
   go_ret
   exact ⟨ret_bool HV.out.symm, Below.refl _ _⟩
 subst hne
 have HB0 := hid (Below.refl w.heap.size w)
 go_enter Tryz.func47, Tryz.ntmps47
 go_wp2_with fail
 go_loopg [5] (nx) (fun g iv wr => ∃ k : Nat, k + g = nx ∧ iv = .int .i64 (k : Int) ∧ X.take k = Y.take k ∧ Below w.heap.size w wr)
 case atStart => exact ⟨0, by omega, rfl, by simp, HB0.out⟩
 case round =>
  obtain ⟨k, hk, rfl, hp, hB⟩ := hrel
  have HK := hid hk
  have HP := hid hp
  have HB := hid hB
  have HXr := hid (HX.out.below hB)
  have HYr := hid (HY.out.below hB)
  have hle : k ≤ nx := by omega
  clear hk hp hB
  by_cases hlt : k < nx
  · have hxk : k < X.length := by rw [HXl.out]; exact hlt
    have hyk : k < Y.length := by rw [HYl.out]; exact hlt
    obtain ⟨ax, rfl, hpx, q0⟩ := HXr.out k hxk
    obtain ⟨ay, rfl, hpy, q1⟩ := HYr.out k hyk
    have HNo := hid (same_false hxk hyk)
    have HTx := hid (List.take_succ_eq_append_getElem hxk)
    have HTy := hid (List.take_succ_eq_append_getElem hyk)
    generalize X[k] = x at *
    generalize Y[k] = y at *
    clear hxk hyk
    by_cases he : x = y
    · subst he
      have q2 : (x != x) = false := by simp
      have HV := hid (show X.take (k + 1) = Y.take (k + 1) by rw [HTx.out, HTy.out, HP.out])
      go_wp2_with fail
      go_quiet (fail)
      go_wp2_with fail
      go_roundg (gk - 1)
      case measure => have := HK.out; omega
      case rel => exact ⟨k + 1, by have := HK.out; omega, by go_num, HV.out, below_then HB.out (below_drewN _ _)⟩
    · have q2 : (x != y) = true := by rw [bne_iff_ne]; exact he
      have HV := hid (HNo.out he)
      clear he
      go_wp2_with fail
      go_quiet (fail)
      go_wp2_with fail
      go_ret
      exact ⟨ret_bool HV.out.symm, below_then HB.out (below_drewN _ _)⟩
  · have HV := hid (show decide (X = Y) = true by
     rw [decide_eq_true]
     have := HP.out
     rwa [List.take_of_length_le (by rw [HXl.out]; omega), List.take_of_length_le (by rw [HYl.out]; omega)] at this)
    go_wp2_with fail
    go_ret
    exact ⟨ret_bool HV.out.symm, HB.out⟩
set_option maxHeartbeats 12800000 in
set_option maxRecDepth 100000 in
theorem after29_any (N : Nt) (A : Option Addr) (n c : Nat) (Am : Option Addr) (m cm : Nat) (M : List Int) (t : Nat) (ht : t < N.tr.length) (w : World) (h : TIn w A N.tr) (hn : N.tr.length = n) (hM : ZIn w Am M) (hm : M.length = m) (hm0 : 0 < m) (hm2 : m ≤ 1000) (hok : trOk N.tr[t] m) (hbd : bnd 1000 M) (hsp : ∀ p : Nat, M.getD p 0 ≤ 100) :
 Calls Tryz.prog 44 #[.agg #[.int .i64 N.pl, .slice A n c, .int .i64 N.src, .int .i64 N.snk], .slice Am m cm, .int .i64 t] w (AfPo (canT N.tr[t] M) (fireT N.tr[t] M) w) := by
 have HB := hid (below_alloc w (.cells #[.int .i64 N.pl, .slice A n c, .int .i64 N.src, .int .i64 N.snk] 24))
 have HNb0 := hid (NB.new w N.pl A n c N.src N.snk)
 have HM0 := hid (hM.below HB.out)
 have HM := hid hm
 have htn : t < n := by omega
 obtain ⟨ad, rfl, hpa, hTr⟩ := (h.below HB.out) t ht
 have HTr0 := hid hTr
 have HPa := hid hpa
 have HOk := hid hok
 have HR := hid (show fireT N.tr[t] M = incs (decs M N.tr[t].i) N.tr[t].o from rfl)
 generalize fireT N.tr[t] M = R at HR ⊢
 have HCt := hid (show canT N.tr[t] M = N.tr[t].i.all (enP M) from rfl)
 generalize canT N.tr[t] M = ct at HCt ⊢
 generalize N.tr[t] = T at *
 obtain ⟨lb, li, lo⟩ := T
 simp only at HR HOk HCt
 have HBd := hid hbd
 have HSp := hid hsp
 clear h hn hM hm hok hbd hsp hTr hpa
 obtain ⟨i0, hi, hz0, hz1, hz2⟩ := info_parts intInfo
 have HI := hid (And.intro hi (And.intro hz0 (And.intro hz1 hz2)))
 clear hi hz0 hz1 hz2
 go_enter Tryz.func44, Tryz.ntmps44
 have hs0 : (w.alloc (.cells #[.int .i64 N.pl, .slice (some ad) n c, .int .i64 N.src, .int .i64 N.snk] 24)).heap.size = w.heap.size + 1 := by simp
 have hown := own_lit0 (w.alloc (.cells #[.int .i64 N.pl, .slice (some ad) n c, .int .i64 N.src, .int .i64 N.snk] 24))
 rw [hs0] at hown
 have HOwn := hid hown
 clear hown
 have HAl := hid (below_alloc (w.alloc (.cells #[.int .i64 N.pl, .slice (some ad) n c, .int .i64 N.src, .int .i64 N.snk] 24)) (.cells #[] 3))
 have HRd0 := hid (rd_of_z (HM0.out.below HAl.out))
 have HS0 := hid hs0
 clear hs0
 go_wp2_with (at_builtin; refine wpList_append_rd intC_len intC_one _ rfl _ _ 25 rfl (w.heap.size + 1) 3 i0 (.int .i64 0) 8 Tryz.underlying25 HI.out.1 HI.out.2.1 HI.out.2.2.1 HI.out.2.2.2 rfl (by decide) (.slice (some ⟨w.heap.size + 1, 0, none⟩) 0 0) 0 [] rfl HOwn.out Am m cm M rfl HRd0.out HM.out ?c3 ?c4 ?c5 ?_)
 case c3 => unfold maxLen; omega
 case c4 => omega
 case c5 => have := HAl.out.size; have := HS0.out; omega
 intro v' w1 hown1 hgrow1
 have hS1 := NS.of_app (w := (w.alloc (.cells #[.int .i64 N.pl, .slice (some ad) n c, .int .i64 N.src, .int .i64 N.snk] 24))) (L := []) (n := 0) HAl.out (by rw [HS0.out]; exact HOwn.out) (by rw [HS0.out]; simpa using hown1) hgrow1 rfl HM.out
 rw [List.nil_append] at hS1
 clear hown1 hgrow1 HRd0 HOwn HAl
 generalize w.alloc _ = w0 at *
 obtain ⟨gb, cap, rfl, hgb, hgl⟩ := hS1.row (by rw [HM.out]; exact hm0)
 rw [HM.out] at hS1 ⊢
 have HS1 := hid hS1
 have HGb := hid hgb
 have HNb := hid HNb0.out
 obtain ⟨_, ⟨u1, m1, s1⟩, u2, m2, s2⟩ := HTr0.out
 obtain ⟨Ai, ni, ci, rfl, zi, hi1, hi2, hi3⟩ := s1
 obtain ⟨Ao, no, co, rfl, zo, ho1, ho2, ho3⟩ := s2
 have Q := hid (And.intro m1 m2)
 have HZi := hid zi
 have HZo := hid zo
 have Hli := hid hi1
 have Hlo := hid ho1
 have HOkli := hid HOk.out.1
 have HOklo := hid HOk.out.2
 have HLp := hid HM.out
 have hni : ni ≤ 1000 := by have := pls_len HOk.out.1; rw [← hi1]; omega
 have hno : no ≤ 1000 := by have := pls_len HOk.out.2; rw [← ho1]; omega
 have htn0 : (0 : Int) ≤ (t : Int) := by omega
 have htn1 : (t : Int) < (n : Int) := by omega
 obtain ⟨b0, b1, b2, b3⟩ := (HNb.out.below HS1.out.2).cells
 have q1 := cell_stays HS1.out.2 Q.out.1
 have q2 := cell_stays HS1.out.2 Q.out.2
 clear hS1 hgb hgl zi zo hi1 ho1 m1 m2 hi2 ho2
 go_wp2_with fail
 clear b0 b1 b2 b3 q1 q2
 go_loopg [10] (ni) (fun g iv wr => ∃ k : Nat, k + g = ni ∧ iv = .int .i64 k ∧ NS w0 wr (.slice (some ⟨gb, 0, none⟩) m cap) (decs M (li.take k)) ∧ (li.take k).all (enP M) = true)
 case atStart => exact ⟨0, by omega, rfl, by rw [List.take_zero]; exact HS1.out, by simp⟩
 case round =>
  obtain ⟨k, hk, rfl, hS, hen⟩ := hrel
  have HK := hid hk
  have HS := hid hS
  have HEn := hid hen
  clear hen
  have hle : k ≤ ni := by omega
  have HZr := hid (HZi.out.below hS.2)
  have q1 := cell_stays hS.2 Q.out.1
  have q2 := cell_stays hS.2 Q.out.2
  have hgr : gb < wr.heap.size := (hS.1.lt gb rfl).2
  obtain ⟨b0, b1, b2, b3⟩ := (HNb.out.below hS.2).cells
  clear hk hS
  by_cases hlt : k < ni
  · have hlt' : k < li.length := by rw [Hli.out]; exact hlt
    obtain ⟨ap, rfl, hpa, q0⟩ := HZr.out k hlt'
    obtain ⟨p, hp⟩ := Int.eq_ofNat_of_zero_le (HOkli.out.1 _ (List.getElem_mem hlt')).1
    have hpm : p < m := by have := (HOkli.out.1 _ (List.getElem_mem hlt')).2; omega
    obtain ⟨hpl, hrd, hx1, hx2⟩ := decs_round M li k p hlt' hp (by rw [HLp.out]; exact hpm) 1000 (by omega) HBd.out
    have HTk := hid (List.take_succ_eq_append_getElem hlt')
    rw [hp] at q0 HTk
    obtain ⟨_, hat⟩ := decs_at (by rw [HLp.out]; exact HOkli.out) hlt' hp (by rw [HLp.out]; exact hpm)
    have HEp := hid (show enP M (p : Int) = decide ((decs M (li.take k))[p] ≠ 0) by unfold enP; rw [hat, Int.toNat_natCast])
    have HLi := hid (show (p : Int) ∈ li by rw [← hp]; exact List.getElem_mem hlt')
    clear hat
    have HRd := hid hrd
    have HC := hid (HS.out.cells p hpl)
    have HLd := hid (show (decs M (li.take k)).length = m by rw [decs_len]; exact HLp.out)
    generalize (decs M (li.take k))[p] = x at *
    generalize decs M (li.take k) = D at *
    clear hrd hp hlt' hpl
    obtain ⟨r0, r1⟩ := HC.out
    have hp0 : (0 : Int) ≤ (p : Int) := by omega
    have hp9 : (p : Int) < (m : Int) := by omega
    by_cases hz : x = 0
    · have q5 : (x == 0) = true := by rw [hz]; rfl
      have HV := hid (show ct = false by rw [HCt.out]; exact all_false HLi.out (by rw [HEp.out]; simp [hz]))
      have HSo := hid HS.out.2
      clear hz
      go_wp2_with fail
      go_ret3
      exact AfPo.no HV.out rfl (below_then HB.out HSo.out)
    have q5 : (x == 0) = false := by simpa using hz
    have HEt := hid (show enP M (p : Int) = true by rw [HEp.out]; simp [hz])
    clear hz HEp
    by_cases hx : x = -1
    · have q3 : (x != -1) = false := by rw [hx]; rfl
      have HSn := hid (show NS w0 wr (.slice (some ⟨gb, 0, none⟩) m cap) (D.set p (dec1 x)) by
       have e : D.set p (dec1 x) = D := by unfold dec1; rw [if_pos hx]; exact set_same HS.out HC.out.1 hx (by rw [HLd.out]; exact hpm)
       rw [e]; exact HS.out)
      clear hx
      go_wp2_with fail
      go_roundg (gk - 1)
      case measure => have := HK.out; omega
      case rel => exact ⟨k + 1, by have := HK.out; omega, by go_num, by rw [HRd.out]; exact HSn.out, by rw [HTk.out, List.all_append, HEn.out]; simp [HEt.out]⟩
    · have q3 : (x != -1) = true := by simpa using hx
      have HD1 := hid (show dec1 x = x - 1 from if_neg hx)
      rw [HD1.out] at HRd
      clear hx
      go_wp2_with fail
      go_roundg (gk - 1)
      case measure => have := HK.out; omega
      case rel => exact ⟨k + 1, by have := HK.out; omega, by go_num, by rw [HRd.out]; exact HS.out.set HGb.out p _, by rw [HTk.out, List.all_append, HEn.out]; simp [HEt.out]⟩
  · have HD := hid (show decs M (li.take k) = decs M li by rw [List.take_of_length_le (by rw [Hli.out]; omega)])
    rw [HD.out] at HS
    have HV := hid (show ct = true by rw [HCt.out]; have := HEn.out; rwa [List.take_of_length_le (by rw [Hli.out]; omega)] at this)
    clear HD HEn
    have HLp1 := hid (show (decs M li).length = m by rw [decs_len]; exact HLp.out)
    have HBd1 := hid (show bnd (1000 + (ni : Int)) (decs M li) by have := decs_bnd li 1000 M (by omega) HBd.out; rw [Hli.out] at this; exact this)
    have HSp1 := hid (decs_le li (by rw [HLp.out]; exact HOkli.out) HSp.out)
    clear HLp HBd HSp HK hle hgr HZr
    have HLp := hid HLp1.out
    have HBd := hid HBd1.out
    have HBig := hid (show bigM R = lo.any (overP (decs M li)) by rw [HR.out]; exact big_over (by rw [HLp1.out]; exact HOklo.out) HSp1.out)
    clear HLp1 HBd1
    generalize decs M li = M1 at *
    obtain ⟨go, rfl⟩ : ∃ go, go = gk := ⟨_, rfl⟩
    go_wp2_with fail
    go_loopg [12, 13] (no) (fun g ov iv wr => ∃ k : Nat, k + g = no ∧ iv = .int .i64 k ∧ NS w0 wr (.slice (some ⟨gb, 0, none⟩) m cap) (incs M1 (lo.take k)) ∧ ov = .bool (!((lo.take k).any (overP M1))))
    case atStart => exact ⟨0, by omega, rfl, by rw [List.take_zero]; exact HS.out, by simp⟩
    case round =>
     obtain ⟨k, hk, rfl, hS, rfl⟩ := hrel
     have HK := hid hk
     have HS := hid hS
     have HOv := hid (show ∃ b, b = (lo.take k).any (overP M1) from ⟨_, rfl⟩)
     have hle : k ≤ no := by omega
     have HZr := hid (HZo.out.below hS.2)
     have q1 := cell_stays hS.2 Q.out.1
     have q2 := cell_stays hS.2 Q.out.2
     have hgr : gb < wr.heap.size := (hS.1.lt gb rfl).2
     obtain ⟨b0, b1, b2, b3⟩ := (HNb.out.below hS.2).cells
     clear hk hS
     by_cases hlt : k < no
     · have hlt' : k < lo.length := by rw [Hlo.out]; exact hlt
       obtain ⟨ap, rfl, hpa, q0⟩ := HZr.out k hlt'
       obtain ⟨p, hp⟩ := Int.eq_ofNat_of_zero_le (HOklo.out.1 _ (List.getElem_mem hlt')).1
       have hpm : p < m := by have := (HOklo.out.1 _ (List.getElem_mem hlt')).2; omega
       obtain ⟨hpl, hrd, hx1, hx2⟩ := incs_round M1 lo k p hlt' hp (by rw [HLp.out]; exact hpm) (1000 + ni) (by omega) HBd.out
       have HTk := hid (List.take_succ_eq_append_getElem hlt')
       rw [hp] at q0 HTk
       obtain ⟨_, hat⟩ := incs_at (by rw [HLp.out]; exact HOklo.out) hlt' hp (by rw [HLp.out]; exact hpm)
       have HOp := hid (show overP M1 (p : Int) = decide (100 < inc1 (incs M1 (lo.take k))[p]) by unfold overP; rw [hat, Int.toNat_natCast])
       have HLi := hid (show (p : Int) ∈ lo by rw [← hp]; exact List.getElem_mem hlt')
       clear hat
       have HRd := hid hrd
       have HC := hid (HS.out.cells p hpl)
       have HLd := hid (show (incs M1 (lo.take k)).length = m by rw [incs_len]; exact HLp.out)
       generalize (incs M1 (lo.take k))[p] = x at *
       generalize incs M1 (lo.take k) = D at *
       clear hrd hp hlt' hpl
       obtain ⟨r0, r1⟩ := HC.out
       have hp0 : (0 : Int) ≤ (p : Int) := by omega
       have hp9 : (p : Int) < (m : Int) := by omega
       generalize hov : (lo.take k).any (overP M1) = ob at *
       have HOb := hid hov
       clear hov HOv
       by_cases hx : x = -1
       · have q3 : (x != -1) = false := by rw [hx]; rfl
         have HSn := hid (show NS w0 wr (.slice (some ⟨gb, 0, none⟩) m cap) (D.set p (inc1 x)) by
          have e : D.set p (inc1 x) = D := by unfold inc1; rw [if_pos hx]; exact set_same HS.out HC.out.1 hx (by rw [HLd.out]; exact hpm)
          rw [e]; exact HS.out)
         have HNo := hid (show overP M1 (p : Int) = false by rw [HOp.out, decide_eq_false]; unfold inc1; rw [if_pos hx]; omega)
         have q4 : decide (x ≤ 100) = true := by simp; omega
         clear hx
         cases ob with
         | false =>
          go_wp2_with fail
          go_roundg (gk - 1)
          case measure => have := HK.out; omega
          case rel => exact ⟨k + 1, by have := HK.out; omega, by go_num, by rw [HRd.out]; exact HSn.out, by rw [HTk.out, List.any_append, HOb.out]; simp [HNo.out]⟩
         | true =>
          go_wp2_with fail
          go_roundg (gk - 1)
          case measure => have := HK.out; omega
          case rel => exact ⟨k + 1, by have := HK.out; omega, by go_num, by rw [HRd.out]; exact HSn.out, by rw [HTk.out, List.any_append, HOb.out]; rfl⟩
       · have q3 : (x != -1) = true := by simpa using hx
         have hi1 : inc1 x = x + 1 := if_neg hx
         rw [hi1] at HRd HOp
         clear hx hi1
         cases ob with
         | true =>
          go_wp2_with fail
          go_roundg (gk - 1)
          case measure => have := HK.out; omega
          case rel => exact ⟨k + 1, by have := HK.out; omega, by go_num, by rw [HRd.out]; exact HS.out.set HGb.out p _, by rw [HTk.out, List.any_append, HOb.out]; rfl⟩
         | false =>
          by_cases hv : 100 < x + 1
          · have q4 : decide (x + 1 ≤ 100) = false := by simp; omega
            have HX := hid (show overP M1 (p : Int) = true by rw [HOp.out]; exact decide_eq_true hv)
            clear hv
            go_wp2_with fail
            go_roundg (gk - 1)
            case measure => have := HK.out; omega
            case rel => exact ⟨k + 1, by have := HK.out; omega, by go_num, by rw [HRd.out]; exact HS.out.set HGb.out p _, by rw [HTk.out, List.any_append, HOb.out]; simp [HX.out]⟩
          · have q4 : decide (x + 1 ≤ 100) = true := by simp; omega
            have HX := hid (show overP M1 (p : Int) = false by rw [HOp.out]; exact decide_eq_false hv)
            clear hv
            go_wp2_with fail
            go_roundg (gk - 1)
            case measure => have := HK.out; omega
            case rel => exact ⟨k + 1, by have := HK.out; omega, by go_num, by rw [HRd.out]; exact HS.out.set HGb.out p _, by rw [HTk.out, List.any_append, HOb.out]; simp [HX.out]⟩
     · have HD := hid (show incs M1 (lo.take k) = R by rw [List.take_of_length_le (by rw [Hlo.out]; omega)]; exact HR.out.symm)
       have HX := hid (show (lo.take k).any (overP M1) = bigM R by rw [HBig.out, List.take_of_length_le (by rw [Hlo.out]; omega)])
       rw [HD.out] at HS
       rw [HX.out]
       go_wp2_with fail
       go_ret3
       exact AfPo.yes HV.out rfl (NS.up HB.out HS.out)
end Go.Proofs.YtpnhcimmlnjfaaaGreatDoor
