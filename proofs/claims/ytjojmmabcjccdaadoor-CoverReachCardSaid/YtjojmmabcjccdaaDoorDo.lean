/- fire of reference 24: what a call returns. -/
import Derived.Test.YtjojmmabcjccdaaDoorDn
namespace Go.Proofs.YtjojmmabcjccdaaDoor
open Go.RowKit

/-- a place gets too many tokens -/
def overP (M : List Int) (p : Int) : Bool := decide (100 < inc1 (M.getD p.toNat 0))
theorem big_over {M l : List Int} (hl : plsOk l M.length) (hM : ∀ p : Nat, M.getD p 0 ≤ 100) : bigM (incs M l) = l.any (overP M) := by
  rw [Bool.eq_iff_iff]
  unfold bigM
  rw [List.any_eq_true, List.any_eq_true]
  constructor
  · rintro ⟨x, hx, h⟩
    obtain ⟨p, hp, rfl⟩ := List.getElem_of_mem hx
    have hg := incs_get M l hl p
    have e : (incs M l).getD p 0 = (incs M l)[p] := by simp [hp]
    rw [e] at hg
    by_cases hm : (p : Int) ∈ l
    · rw [if_pos hm] at hg
      refine ⟨(p : Int), hm, ?_⟩
      unfold overP
      rw [hg] at h
      simpa using h
    · rw [if_neg hm] at hg
      have := hM p
      have h2 := of_decide_eq_true h
      omega
  · rintro ⟨p, hp, h⟩
    have hr := hl.1 p hp
    obtain ⟨q, rfl⟩ := Int.eq_ofNat_of_zero_le hr.1
    have hq : q < (incs M l).length := by rw [incs_len]; omega
    refine ⟨(incs M l)[q], List.getElem_mem hq, ?_⟩
    have hg := incs_get M l hl q
    rw [if_pos hp] at hg
    have e : (incs M l).getD q 0 = (incs M l)[q] := by simp [hq]
    rw [← e, hg]
    simpa [overP] using h
theorem pls_take {l : List Int} {n : Nat} (h : plsOk l n) (k : Nat) : plsOk (l.take k) n :=
  ⟨fun p hp => h.1 p (List.mem_of_mem_take hp), List.Sublist.nodup (List.take_sublist k l) h.2⟩
/-- the value at the place that was set last -/
theorem incs_at {M l : List Int} {k p : Nat} (hl : plsOk l M.length) (hk : k < l.length) (hp : l[k] = (p : Int)) (hpm : p < M.length) :
    ∃ h : p < (incs M (l.take k)).length, (incs M (l.take k))[p] = M.getD p 0 := by
  refine ⟨by rw [incs_len]; exact hpm, ?_⟩
  have hg := incs_get M (l.take k) (pls_take hl k) p
  have hn : (p : Int) ∉ l.take k := by
    intro hm
    obtain ⟨j, hj, e⟩ := List.getElem_of_mem hm
    rw [List.getElem_take] at e
    rw [List.length_take] at hj
    have h2 := hl.2
    have h3 : List.Pairwise (· ≠ ·) l := h2
    rw [List.pairwise_iff_getElem] at h3
    exact h3 j k (by omega) hk (by omega) (by rw [e, hp])
  rw [if_neg hn] at hg
  have e : (incs M (l.take k)).getD p 0 = (incs M (l.take k))[p]'(by rw [incs_len]; exact hpm) := by simp [incs_len, hpm]
  rw [← e, hg]
/-- what fire of the reference returns -/
def RFi (L : List Int) (w : World) (e : Ending) (w' : World) : Prop := if bigM L then e = .returned (.tuple #[.slice none 0 0, .bool false]) ∧ Below w.heap.size w w' else ∃ v, e = .returned (.tuple #[v, .bool true]) ∧ NS w w' v L
theorem RFi.no {L : List Int} {w w' : World} {e : Ending} (h : bigM L = true) (he : e = .returned (.tuple #[.slice none 0 0, .bool false])) (hb : Below w.heap.size w w') : RFi L w e w' := by unfold RFi; rw [if_pos h]; exact ⟨he, hb⟩
theorem RFi.yes {L : List Int} {w w' : World} {e : Ending} {v : Value} (h : bigM L = false) (he : e = .returned (.tuple #[v, .bool true])) (hs : NS w w' v L) : RFi L w e w' := by unfold RFi; rw [if_neg (by rw [h]; decide)]; exact ⟨v, he, hs⟩
theorem set_same {w wr : World} {g n cap p : Nat} {D : List Int} {x : Int} (_h : NS w wr (.slice (some ⟨g, 0, none⟩) n cap) D) (hc : wr.cell? ⟨g, p, none⟩ = some (.int .i64 x)) (hx : x = -1) (hp : p < D.length) : D.set p (-1) = D := by
  have h2 := (_h.cells p hp).1
  rw [hc] at h2
  injection h2 with h2
  injection h2 with _ h2
  apply List.ext_getElem (by simp)
  intro j h3 h4
  rw [List.getElem_set]
  split
  · subst_vars; exact h2
  · rfl
theorem decs_le {M : List Int} (l : List Int) (h : plsOk l M.length) (hM : ∀ p : Nat, M.getD p 0 ≤ 100) : ∀ p : Nat, (decs M l).getD p 0 ≤ 100 := by
  intro p
  rw [decs_get M l h]
  have := hM p
  have := dec1_bnd (M.getD p 0)
  split <;> omega
set_option maxHeartbeats 12800000 in
set_option maxRecDepth 100000 in
theorem rfire_any (N : Nt) (A : Option Addr) (n c : Nat) (Am : Option Addr) (m cm : Nat) (M : List Int) (t : Nat) (ht : t < N.tr.length) (w : World) (h : TIn w A N.tr) (hn : N.tr.length = n) (hM : ZIn w Am M) (hm : M.length = m) (hm0 : 0 < m) (hm2 : m ≤ 1000) (hok : trOk N.tr[t] m) (hbd : bnd 1000 M) (hsp : ∀ p : Nat, M.getD p 0 ≤ 100) :
    Calls Tryd.prog 45 #[.agg #[.int .i64 N.pl, .slice A n c, .int .i64 N.src, .int .i64 N.snk], .slice Am m cm, .int .i64 t] w (RFi (fireT N.tr[t] M) w) := by
  have HB := Lib.hid (below_alloc w (.cells #[.int .i64 N.pl, .slice A n c, .int .i64 N.src, .int .i64 N.snk] 24))
  have HNb0 := Lib.hid (NB.new w N.pl A n c N.src N.snk)
  have HM0 := Lib.hid (hM.below HB.out)
  have HM := Lib.hid hm
  have htn : t < n := by omega
  obtain ⟨ad, rfl, hpa, hTr⟩ := (h.below HB.out) t ht
  have HTr0 := Lib.hid hTr
  have HPa := Lib.hid hpa
  have HOk := Lib.hid hok
  have HR := Lib.hid (show fireT N.tr[t] M = incs (decs M N.tr[t].i) N.tr[t].o from rfl)
  generalize fireT N.tr[t] M = R at HR ⊢
  generalize N.tr[t] = T at *
  obtain ⟨lb, li, lo⟩ := T
  simp only at HR HOk
  have HBd := Lib.hid hbd
  have HSp := Lib.hid hsp
  clear h hn hM hm hok hbd hsp hTr hpa
  obtain ⟨i0, hi, hz0, hz1, hz2⟩ := info_parts intInfo
  have HI := Lib.hid (And.intro hi (And.intro hz0 (And.intro hz1 hz2)))
  clear hi hz0 hz1 hz2
  go_enter Tryd.func45, Tryd.ntmps45
  have hs0 : (w.alloc (.cells #[.int .i64 N.pl, .slice (some ad) n c, .int .i64 N.src, .int .i64 N.snk] 24)).heap.size = w.heap.size + 1 := by simp
  have hown := own_lit0 (w.alloc (.cells #[.int .i64 N.pl, .slice (some ad) n c, .int .i64 N.src, .int .i64 N.snk] 24))
  rw [hs0] at hown
  have HOwn := Lib.hid hown
  clear hown
  have HAl := Lib.hid (below_alloc (w.alloc (.cells #[.int .i64 N.pl, .slice (some ad) n c, .int .i64 N.src, .int .i64 N.snk] 24)) (.cells #[] 3))
  have HRd0 := Lib.hid (rd_of_z (HM0.out.below HAl.out))
  have HS0 := Lib.hid hs0
  clear hs0
  go_wp2_with (at_builtin; refine wpList_append_rd intC_len intC_one _ rfl _ _ 25 rfl (w.heap.size + 1) 3 i0 (.int .i64 0) 8 Tryd.underlying25 HI.out.1 HI.out.2.1 HI.out.2.2.1 HI.out.2.2.2 rfl (by decide) (.slice (some ⟨w.heap.size + 1, 0, none⟩) 0 0) 0 [] rfl HOwn.out Am m cm M rfl HRd0.out HM.out ?c3 ?c4 ?c5 ?_)
  case c3 => unfold maxLen; omega
  case c4 => omega
  case c5 => have := HAl.out.size; have := HS0.out; omega
  intro v' w1 hown1 hgrow1
  have hS1 := NS.of_app (w := (w.alloc (.cells #[.int .i64 N.pl, .slice (some ad) n c, .int .i64 N.src, .int .i64 N.snk] 24))) (L := []) (n := 0) HAl.out (by rw [HS0.out]; exact HOwn.out) (by rw [HS0.out]; simpa using hown1) hgrow1 rfl HM.out
  rw [List.nil_append] at hS1
  clear hown1 hgrow1 HRd0 HOwn HAl
  generalize w.alloc _ = w0 at *
  obtain ⟨gb, cap, rfl, hgb, hgl⟩ := hS1.row (by rw [HM.out]; exact hm0)
  rw [HM.out] at hS1 ⊢
  have HS1 := Lib.hid hS1
  have HGb := Lib.hid hgb
  have HNb := Lib.hid HNb0.out
  obtain ⟨_, ⟨u1, m1, s1⟩, u2, m2, s2⟩ := HTr0.out
  obtain ⟨Ai, ni, ci, rfl, zi, hi1, hi2, hi3⟩ := s1
  obtain ⟨Ao, no, co, rfl, zo, ho1, ho2, ho3⟩ := s2
  have Q := Lib.hid (And.intro m1 m2)
  have HZi := Lib.hid zi
  have HZo := Lib.hid zo
  have Hli := Lib.hid hi1
  have Hlo := Lib.hid ho1
  have HOkli := Lib.hid HOk.out.1
  have HOklo := Lib.hid HOk.out.2
  have HLp := Lib.hid HM.out
  have hni : ni ≤ 1000 := by have := pls_len HOk.out.1; rw [← hi1]; omega
  have hno : no ≤ 1000 := by have := pls_len HOk.out.2; rw [← ho1]; omega
  have htn0 : (0 : Int) ≤ (t : Int) := by omega
  have htn1 : (t : Int) < (n : Int) := by omega
  obtain ⟨b0, b1, b2, b3⟩ := (HNb.out.below HS1.out.2).cells
  have q1 := cell_stays HS1.out.2 Q.out.1
  have q2 := cell_stays HS1.out.2 Q.out.2
  clear hS1 hgb hgl zi zo hi1 ho1 m1 m2 hi2 ho2
  go_wp2_with fail
  clear b0 b1 b2 b3 q1 q2
  go_loopg [9] (ni) (fun g iv wr => ∃ k : Nat, k + g = ni ∧ iv = .int .i64 k ∧ NS w0 wr (.slice (some ⟨gb, 0, none⟩) m cap) (decs M (li.take k)))
  case atStart => exact ⟨0, by omega, rfl, by rw [List.take_zero]; exact HS1.out⟩
  case round =>
    obtain ⟨k, hk, rfl, hS⟩ := hrel
    have HK := Lib.hid hk
    have HS := Lib.hid hS
    skip
    have hle : k ≤ ni := by omega
    have HZr := Lib.hid (HZi.out.below hS.2)
    have q1 := cell_stays hS.2 Q.out.1
    have q2 := cell_stays hS.2 Q.out.2
    have hgr : gb < wr.heap.size := (hS.1.lt gb rfl).2
    obtain ⟨b0, b1, b2, b3⟩ := (HNb.out.below hS.2).cells
    clear hk hS
    by_cases hlt : k < ni
    · have hlt' : k < li.length := by rw [Hli.out]; exact hlt
      obtain ⟨ap, rfl, hpa, q0⟩ := HZr.out k hlt'
      obtain ⟨p, hp⟩ := Int.eq_ofNat_of_zero_le (HOkli.out.1 _ (List.getElem_mem hlt')).1
      have hpm : p < m := by have := (HOkli.out.1 _ (List.getElem_mem hlt')).2; omega
      obtain ⟨hpl, hrd, hx1, hx2⟩ := decs_round M li k p hlt' hp (by rw [HLp.out]; exact hpm) 1000 (by omega) HBd.out
      have HTk := Lib.hid (List.take_succ_eq_append_getElem hlt')
      rw [hp] at q0 HTk
      have HRd := Lib.hid hrd
      have HC := Lib.hid (HS.out.cells p hpl)
      have HLd := Lib.hid (show (decs M (li.take k)).length = m by rw [decs_len]; exact HLp.out)
      generalize (decs M (li.take k))[p] = x at *
      generalize decs M (li.take k) = D at *
      clear hrd hp hlt' hpl
      obtain ⟨r0, r1⟩ := HC.out
      have hp0 : (0 : Int) ≤ (p : Int) := by omega
      have hp9 : (p : Int) < (m : Int) := by omega
      by_cases hx : x = -1
      · have q3 : (x != -1) = false := by rw [hx]; rfl
        have HSn := Lib.hid (show NS w0 wr (.slice (some ⟨gb, 0, none⟩) m cap) (D.set p (dec1 x)) by
          have e : D.set p (dec1 x) = D := by unfold dec1; rw [if_pos hx]; exact set_same HS.out HC.out.1 hx (by rw [HLd.out]; exact hpm)
          rw [e]; exact HS.out)
        clear hx
        go_wp2_with fail
        go_roundg (gk - 1)
        case measure => have := HK.out; omega
        case rel => exact ⟨k + 1, by have := HK.out; omega, by go_num, by rw [HRd.out]; exact HSn.out⟩
      · have q3 : (x != -1) = true := by simpa using hx
        have HD1 := Lib.hid (show dec1 x = x - 1 from if_neg hx)
        rw [HD1.out] at HRd
        clear hx
        go_wp2_with fail
        go_roundg (gk - 1)
        case measure => have := HK.out; omega
        case rel => exact ⟨k + 1, by have := HK.out; omega, by go_num, by rw [HRd.out]; exact HS.out.set HGb.out p _⟩
    · have HD := Lib.hid (show decs M (li.take k) = decs M li by rw [List.take_of_length_le (by rw [Hli.out]; omega)])
      rw [HD.out] at HS
      clear HD
      have HLp1 := Lib.hid (show (decs M li).length = m by rw [decs_len]; exact HLp.out)
      have HBd1 := Lib.hid (show bnd (1000 + (ni : Int)) (decs M li) by have := decs_bnd li 1000 M (by omega) HBd.out; rw [Hli.out] at this; exact this)
      have HSp1 := Lib.hid (decs_le li (by rw [HLp.out]; exact HOkli.out) HSp.out)
      clear HLp HBd HSp HK hle hgr HZr
      have HLp := Lib.hid HLp1.out
      have HBd := Lib.hid HBd1.out
      have HBig := Lib.hid (show bigM R = lo.any (overP (decs M li)) by rw [HR.out]; exact big_over (by rw [HLp1.out]; exact HOklo.out) HSp1.out)
      clear HLp1 HBd1
      generalize decs M li = M1 at *
      obtain ⟨go, rfl⟩ : ∃ go, go = gk := ⟨_, rfl⟩
      go_wp2_with fail
      go_loopg [11] (no) (fun g iv wr => ∃ k : Nat, k + g = no ∧ iv = .int .i64 k ∧ NS w0 wr (.slice (some ⟨gb, 0, none⟩) m cap) (incs M1 (lo.take k)) ∧ (lo.take k).any (overP M1) = false)
      case atStart => exact ⟨0, by omega, rfl, by rw [List.take_zero]; exact HS.out, by simp⟩
      case round =>
        obtain ⟨k, hk, rfl, hS, hov⟩ := hrel
        have HK := Lib.hid hk
        have HS := Lib.hid hS
        have HOv := Lib.hid hov
        have hle : k ≤ no := by omega
        have HZr := Lib.hid (HZo.out.below hS.2)
        have q1 := cell_stays hS.2 Q.out.1
        have q2 := cell_stays hS.2 Q.out.2
        have hgr : gb < wr.heap.size := (hS.1.lt gb rfl).2
        obtain ⟨b0, b1, b2, b3⟩ := (HNb.out.below hS.2).cells
        clear hk hS hov
        by_cases hlt : k < no
        · have hlt' : k < lo.length := by rw [Hlo.out]; exact hlt
          obtain ⟨ap, rfl, hpa, q0⟩ := HZr.out k hlt'
          obtain ⟨p, hp⟩ := Int.eq_ofNat_of_zero_le (HOklo.out.1 _ (List.getElem_mem hlt')).1
          have hpm : p < m := by have := (HOklo.out.1 _ (List.getElem_mem hlt')).2; omega
          obtain ⟨hpl, hrd, hx1, hx2⟩ := incs_round M1 lo k p hlt' hp (by rw [HLp.out]; exact hpm) (1000 + ni) (by omega) HBd.out
          have HTk := Lib.hid (List.take_succ_eq_append_getElem hlt')
          rw [hp] at q0 HTk
          obtain ⟨_, hat⟩ := incs_at (by rw [HLp.out]; exact HOklo.out) hlt' hp (by rw [HLp.out]; exact hpm)
          have HOp := Lib.hid (show overP M1 (p : Int) = decide (100 < inc1 (incs M1 (lo.take k))[p]) by unfold overP; rw [hat, Int.toNat_natCast])
          have HLi := Lib.hid (show (p : Int) ∈ lo by rw [← hp]; exact List.getElem_mem hlt')
          clear hat
          have HRd := Lib.hid hrd
          have HC := Lib.hid (HS.out.cells p hpl)
          have HLd := Lib.hid (show (incs M1 (lo.take k)).length = m by rw [incs_len]; exact HLp.out)
          generalize (incs M1 (lo.take k))[p] = x at *
          generalize incs M1 (lo.take k) = D at *
          clear hrd hp hlt' hpl
          obtain ⟨r0, r1⟩ := HC.out
          have hp0 : (0 : Int) ≤ (p : Int) := by omega
          have hp9 : (p : Int) < (m : Int) := by omega
          by_cases hx : x = -1
          · have q3 : (x != -1) = false := by rw [hx]; rfl
            have HSn := Lib.hid (show NS w0 wr (.slice (some ⟨gb, 0, none⟩) m cap) (D.set p (inc1 x)) by
              have e : D.set p (inc1 x) = D := by unfold inc1; rw [if_pos hx]; exact set_same HS.out HC.out.1 hx (by rw [HLd.out]; exact hpm)
              rw [e]; exact HS.out)
            have hv : ¬ 100 < inc1 x := by unfold inc1; rw [if_pos hx]; omega
            have q4 : x ≤ 100 := by omega
            clear hx
            go_wp2_with fail
            go_roundg (gk - 1)
            case measure => have := HK.out; omega
            case rel => exact ⟨k + 1, by have := HK.out; omega, by go_num, by rw [HRd.out]; exact HSn.out, by rw [HTk.out, List.any_append, HOv.out]; simp [HOp.out, hv]⟩
          · have q3 : (x != -1) = true := by simpa using hx
            have hi1 : inc1 x = x + 1 := if_neg hx
            rw [hi1] at HRd HOp
            clear hx hi1
            by_cases hv : 100 < x + 1
            · have HSn := Lib.hid (HS.out.set HGb.out p (x + 1)).2
              have HX := Lib.hid (show bigM R = true by rw [HBig.out, List.any_eq_true]; exact ⟨_, HLi.out, by rw [HOp.out]; exact decide_eq_true hv⟩)
              go_wp2_with fail
              go_ret2
              exact RFi.no HX.out rfl (below_then HB.out HSn.out)
            · have q4 : x + 1 ≤ 100 := by omega
              go_wp2_with fail
              go_roundg (gk - 1)
              case measure => have := HK.out; omega
              case rel => exact ⟨k + 1, by have := HK.out; omega, by go_num, by rw [HRd.out]; exact HS.out.set HGb.out p _, by rw [HTk.out, List.any_append, HOv.out]; simp [HOp.out, hv]⟩
        · have HD := Lib.hid (show incs M1 (lo.take k) = R by rw [List.take_of_length_le (by rw [Hlo.out]; omega)]; exact HR.out.symm)
          have HX := Lib.hid (show bigM R = false by rw [HBig.out]; have := HOv.out; rwa [List.take_of_length_le (by rw [Hlo.out]; omega)] at this)
          rw [HD.out] at HS
          go_wp2_with fail
          go_ret2
          exact RFi.yes HX.out rfl (NS.up HB.out HS.out)
end Go.Proofs.YtjojmmabcjccdaaDoor
