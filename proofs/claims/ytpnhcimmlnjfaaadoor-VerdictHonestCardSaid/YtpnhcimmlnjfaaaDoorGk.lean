/- VerdictTrue, plain: what a claim gives of each marking that a run reaches. Enabled of reference 21, and the closure of VerdictTrue: what a call returns. -/
import Derived.Test.YtpnhcimmlnjfaaaDoorYp
import Derived.Test.YtpnhcimmlnjfaaaDoorYn
import Derived.Test.YtpnhcimmlnjfaaaDoorQk
import Derived.Test.YtpnhcimmlnjfaaaDoorCo
namespace Go.Proofs.YtpnhcimmlnjfaaaDoor
open Go.Lib (hid)
section
open Go.RowKit

/-- what the statement's loop asks of a marking -/
def TruP (N : Nt) (cl cn : Int) (K : List (List Int)) (M : List Int) : Prop :=
 (cl = 1 → M ∈ K ∧ (M ≠ finM N → ¬ 0 < M.getD N.snk.toNat 0 ∧ ∃ t ∈ N.tr, canT t M = true)) ∧ (cl = 5 → M ∈ K) ∧ (cl = 7 → 0 ≤ cn ∧ cn < (N.tr.length : Int) ∧ ∃ t, N.tr[cn.toNat]? = some t ∧ canT t M = false)
/-- the loop's markings -/
def TruM (N : Nt) (cl : Int) (K : List (List Int)) (M : List Int) : Prop := Reach N (iniM N) M ∧ mkB N M = true ∧ (cl = 1 ∨ cl = 5 → M ∈ K)
section
variable {N : Nt} {cl cn : Int} {R P : List Int} {K : List (List Int)} {V : List Mv} {S X : List (List Int)} {M : List Int}
theorem tru_cl (h : ChkP N cl cn R P K V S X) : 1 ≤ cl ∧ cl ≤ 8 := by
 obtain ⟨_, _, _, _, _, h⟩ := h
 omega
theorem tru_cls (h : ChkP N cl cn R P K V S X) (hc : cl = 1 ∨ cl = 5) : iniM N ∈ K ∧ Cls N K := by
 obtain ⟨hv, _, _, _, _, h⟩ := h
 rcases hc with rfl | rfl <;> simp only [Int.reduceEq, false_and, true_and, false_or, or_false] at h
 · have hs := snd_of hv h
   exact ⟨hs.ini, hs.cl⟩
 · unfold chkB at h
   simp only [Bool.and_eq_true, if_pos] at h
   obtain ⟨hi, _, hC⟩ := clsB_of h.2
   exact ⟨hi, hC⟩
theorem tru_start (h : ChkP N cl cn R P K V S X) : TruM N cl K (iniM N) :=
 ⟨.base, one_mk h.1 _, fun hc => (tru_cls h hc).1⟩
theorem tru_step (h : ChkP N cl cn R P K V S X) (hm : TruM N cl K M) {t : Int} (h0 : (fireV N M t).2 = 0) : TruM N cl K (fireV N M t).1 :=
 ⟨reach_fireV hm.1 h0, fire_mk hm.2.1 h0, fun hc => (cls_fire (tru_cls h hc).2 (hm.2.2 hc) t).2 h0⟩
theorem tru_of (h : ChkP N cl cn R P K V S X) (hm : TruM N cl K M) : TruP N cl cn K M := by
 refine ⟨fun hc => ?_, fun hc => hm.2.2 (.inr hc), fun hc => ?_⟩
 · obtain ⟨hv, _, _, _, _, g⟩ := h
   subst hc
   simp only [Int.reduceEq, false_and, true_and, or_false] at g
   have hs := snd_of hv g
   have hk := hm.2.2 (.inl rfl)
   refine ⟨hk, fun hne => ⟨hs.snk _ hk hne, ?_⟩⟩
   obtain ⟨i, hi, e⟩ := List.getElem_of_mem hk
   obtain ⟨t, ht, hcan, _⟩ := hs.near i hi (by rw [e]; exact hne)
   exact ⟨t, ht, by rw [← e]; exact hcan⟩
 · obtain ⟨hv, _, _, _, _, g⟩ := h
   subst hc
   simp only [Int.reduceEq, false_and, true_and, false_or, or_false] at g
   obtain ⟨t, h1, h2, h3, h4⟩ := dead_no hv g hm.1
   exact ⟨h2, h3, t, h1, h4⟩
end
end
section
open Go.RowKit

/-- the enabled transitions are there -/
theorem en_mem {N : Nt} {M : List Int} {t : Tr} (ht : t ∈ N.tr) (hc : canT t M = true) : (enTo N M N.tr.length).length ≠ 0 := by
 obtain ⟨k, hk, rfl⟩ := List.getElem_of_mem ht
 have key : ∀ j, k < j → j ≤ N.tr.length → (k : Int) ∈ enTo N M j := by
  intro j
  induction j with
  | zero => intro h; omega
  | succ j ih =>
   intro h1 h2
   cases hb : canAt N M j with
   | true =>
    rw [en_yes _ _ _ hb]
    by_cases e : k = j
    · subst e; simp
    · exact List.mem_append.2 (.inl (ih (by omega) (by omega)))
   | false =>
    rw [en_no _ _ _ hb]
    by_cases e : k = j
    · subst e; rw [canAt_get _ _ _ hk, hc] at hb; simp at hb
    · exact ih (by omega) (by omega)
 have := key _ hk (Nat.le_refl _)
 intro e
 rw [List.eq_nil_of_length_eq_zero e] at this
 simp at this
set_option maxHeartbeats 1600000 in
set_option maxRecDepth 100000 in
theorem one29_any (pl : Nat) (A : Option Addr) (n c : Nat) (src snk : Int) (p : Nat) (w : World) (hp : p < pl) (hpl : pl ≤ 1000) :
 Calls Tryd.prog 10 #[.agg #[.int .i64 (pl : Int), .slice A n c, .int .i64 src, .int .i64 snk], .int .i64 (p : Int)] w fun e w' => ∃ v, e = .returned v ∧ NS w w' v (oneM pl p) := by
 have HB := hid (below_alloc w (.cells #[.int .i64 (pl : Int), .slice A n c, .int .i64 src, .int .i64 snk] 24))
 have HN := hid (NB.new w (pl : Int) A n c src snk)
 have hmk := mk_ints pl (by omega)
 have hp0 : (0 : Int) ≤ (p : Int) := by omega
 have hp1 : (p : Int) < (pl : Int) := by omega
 have hpl0 : (0 : Int) ≤ (pl : Int) := by omega
 have hc0 : (madeCells #[Value.int .i64 0] pl)[p]? = some (.int .i64 0) := by rw [← Array.getElem?_toList, toList_madeCells_one]; simp [hp]
 have hs0 : (w.alloc (.cells #[.int .i64 (pl : Int), .slice A n c, .int .i64 src, .int .i64 snk] 24)).heap.size = w.heap.size + 1 := by simp
 go_enter Tryd.func10, Tryd.ntmps10
 go_wp2_with fail
 have h1 := NS.one1 (w.alloc (.cells #[.int .i64 (pl : Int), .slice A n c, .int .i64 src, .int .i64 snk] 24)) pl p (by omega)
 rw [hs0] at h1
 go_ret
 exact ⟨_, rfl, NS.up HB.out h1⟩
theorem src29_any (N : Nt) (A : Option Addr) (n c : Nat) (hv : ntB N = true) (w : World) : Calls Tryd.prog 10 #[.agg #[.int .i64 N.pl, .slice A n c, .int .i64 N.src, .int .i64 N.snk], .int .i64 N.src] w fun e w' => ∃ v, e = .returned v ∧ NS w w' v (iniM N) := by
 have h1 := nt_small hv
 have h2 := nt_src hv
 have h := one29_any N.pl.toNat A n c N.src N.snk N.src.toNat w (by omega) (by omega)
 rw [show ((N.pl.toNat : Nat) : Int) = N.pl by omega, show ((N.src.toNat : Nat) : Int) = N.src by omega] at h
 exact h
theorem snk29_any (N : Nt) (A : Option Addr) (n c : Nat) (hv : ntB N = true) (w : World) : Calls Tryd.prog 10 #[.agg #[.int .i64 N.pl, .slice A n c, .int .i64 N.src, .int .i64 N.snk], .int .i64 N.snk] w fun e w' => ∃ v, e = .returned v ∧ NS w w' v (finM N) := by
 have h1 := nt_small hv
 have h2 := nt_src hv
 have h := one29_any N.pl.toNat A n c N.src N.snk N.snk.toNat w (by omega) (by omega)
 rw [show ((N.pl.toNat : Nat) : Int) = N.pl by omega, show ((N.snk.toNat : Nat) : Int) = N.snk by omega] at h
 exact h
set_option maxHeartbeats 3200000 in
set_option maxRecDepth 100000 in
theorem enabled21_any (N : Nt) (A : Option Addr) (n c : Nat) (Am : Option Addr) (m cm : Nat) (M : List Int) (w : World) (h : NtIn w A N) (hn : N.tr.length = n) (hM : ZIn w Am M) (hm : M.length = m) (hmk : mkB N M = true) :
 Calls Tryd.prog 14 #[.agg #[.int .i64 N.pl, .slice A n c, .int .i64 N.src, .int .i64 N.snk], .slice Am m cm] w fun e w' => ∃ v, e = .returned v ∧ NS w w' v (enTo N M N.tr.length) := by
 have HB := hid (below_alloc w (.cells #[.int .i64 N.pl, .slice A n c, .int .i64 N.src, .int .i64 N.snk] 24))
 have HN0 := hid (NB.new w N.pl A n c N.src N.snk)
 have HIn0 := hid (h.below HB.out)
 have HM0 := hid (hM.below HB.out)
 have HLn := hid hn
 have HLm := hid hm
 have HInM := hid (nt_inM (mk_nt hmk) (m := m) (by rw [← hm]; exact mk_len hmk))
 have HPos := hid (fun x hx => (mk_nums hmk x hx).1)
 have hn60 : n ≤ 60 := by have := nt_small (mk_nt hmk); omega
 clear h hn hM hm hmk
 obtain ⟨i0, hi, hz0, hz1, hz2⟩ := info_parts intInfo
 have HI := hid (And.intro hi (And.intro hz0 (And.intro hz1 hz2)))
 clear hi hz0 hz1 hz2
 go_enter Tryd.func14, Tryd.ntmps14
 go_wp2_with fail
 generalize w.alloc _ = w0 at *
 have HS0 := hid (NS.start (Below.refl w0.heap.size w0))
 obtain ⟨b0, b1, b2, b3⟩ := HN0.out.cells
 go_wp2_with fail
 go_loopg [6, 5] (n) (fun g iv lv wr => ∃ k : Nat, k + g = n ∧ iv = .int .i64 k ∧ NS w0 wr lv (enTo N M k))
 case atStart => exact ⟨0, by omega, rfl, HS0.out⟩
 case round =>
  obtain ⟨k, hk, rfl, hS⟩ := hrel
  have hB := hS.2
  have HK := hid hk
  have HS := hid hS
  have hle : k ≤ n := by omega
  have hen := en_len N M k
  obtain ⟨A1, c1, rfl⟩ := hS.slice
  have HInr := hid (HIn0.out.below hB)
  have HMr := hid (HM0.out.below hB)
  have HNr := hid (HN0.out.below hB)
  clear b0 b1 b2 b3
  obtain ⟨b0, b1, b2, b3⟩ := HNr.out.cells
  clear hk hS hB
  by_cases hlt : k < n
  · have hlt' : k < N.tr.length := by rw [HLn.out]; exact hlt
    have HCa := hid (canAt_get N M k hlt')
    have HY := hid (en_yes N M k)
    have HNo := hid (en_no N M k)
    have HC := hid (can21_any N A n c Am m cm M k hlt' wr HInr.out.1 HLn.out HMr.out HLm.out (HInM.out _ (List.getElem_mem hlt')).1 HPos.out)
    rw [← HCa.out] at HC
    generalize canAt N M k = cb at HC HCa HY HNo
    generalize enTo N M k = L at *
    clear HCa hlt'
    cases cb with
    | false =>
     have HX := hid (HNo.out rfl)
     clear HY HNo
     go_wp2_with fail
     ((with_reducible refine HC.out.mono ?_); rintro e w2 ⟨rfl, hb2⟩)
     replace HS := hid (NS.below HS.out hb2)
     clear hb2 HC
     go_wp2_with fail
     go_roundg (gk - 1)
     case measure => have := HK.out; omega
     case rel => exact ⟨k + 1, by have := HK.out; omega, by go_num, by rw [HX.out]; exact HS.out⟩
    | true =>
     have HX := hid (HY.out rfl)
     clear HY HNo
     go_wp2_with fail
     ((with_reducible refine HC.out.mono ?_); rintro e w2 ⟨rfl, hb2⟩)
     replace HS := hid (NS.below HS.out hb2)
     clear hb2 HC
     go_wp2_with (at_builtin; refine wpList_append_own _ rfl _ _ 25 rfl w0.heap.size 3 i0 (.int .i64 0) 1 8 Tryd.underlying25 HI.out.1 HI.out.2.1 HI.out.2.2.1 HI.out.2.2.2 rfl (by decide) (.slice A1 L.length c1) _ _ rfl (HS.out.1.alloc _) ⟨w2.heap.size, 0, none⟩ 1 1 [.int .i64 k] rfl rfl ?c1 ?c2 ?c3 ?c4 ?c5 ?_)
     case c1 => intro j u hj; match j, hj with | 0, hj => simp at hj; subst hj; simp [Addr.add] | j + 1, hj => simp at hj
     case c2 => intro u hu; simp at hu; subst hu; rfl
     case c3 => unfold maxLen; omega
     case c4 => omega
     case c5 => have := HS.out.size; simp; omega
     intro v' w4 hown4 hgrow4 _
     replace HS := hid (HS.out.push hown4 hgrow4)
     clear hown4 hgrow4
     go_wp2_with fail
     go_roundg (gk - 1)
     case measure => have := HK.out; omega
     case rel => exact ⟨k + 1, by have := HK.out; omega, by go_num, by rw [HX.out]; exact HS.out⟩
  · have HX := hid (show enTo N M k = enTo N M N.tr.length by rw [HLn.out, show k = n by have := HK.out; omega])
    go_wp2_with fail
    go_ret
    rw [← HX.out]
    exact ⟨_, rfl, NS.up HB.out HS.out⟩
theorem vt1_any (Ax : Option Addr) (nx cx : Nat) (X : List Int) (pb : Nat) (Ay : Option Addr) (ny cy : Nat) (Y : List Int) (w : World) (hx : ZIn w Ax X) (hl : X.length = nx) (hn : nx ≤ 9223372036854775807) (h : MB w pb Ay ny cy Y) (hy : ny ≤ 9223372036854775807) :
 Calls Tryd.prog 12 #[.slice Ax nx cx, .pointer (some ⟨pb, 0, none⟩)] w fun e w' => e = .returned (.bool (isL Y X)) ∧ Below w.heap.size w w' := by
 obtain ⟨h1, h2, h3⟩ := h
 have c0 : w.cell? ⟨pb, 0, none⟩ = some (.slice Ay ny cy) := by simp [World.cell?, h1]
 have HE := hid (equal_any Ax nx cx Ay ny cy X Y w hx hl h2 h3 hn hy)
 clear h1 h2 h3 hx hl
 go_enter Tryd.func12, Tryd.ntmps12
 go_wp2_with fail
 ((with_reducible refine HE.out.mono ?_); rintro e w1 ⟨rfl, hb1⟩)
 have HB1 := hid hb1
 go_wp2_with fail
 go_ret
 exact ⟨rfl, HB1.out⟩
set_option maxHeartbeats 3200000 in
set_option maxRecDepth 100000 in
theorem lindex_vt (A : Option Addr) (n cap : Nat) (L : List (List Int)) (w : World) (h : LIn w A L) (hn : L.length = n) (hn4 : n ≤ 9223372036854775806) (pb : Nat) (Ay : Option Addr) (ny cy : Nat) (Y : List Int) (hy : ny ≤ 9223372036854775807) (hS : MB w pb Ay ny cy Y) :
 Calls Tryd.prog 33 #[.slice A n cap, .func (.func 12) #[] #[.pointer (some ⟨pb, 0, none⟩)]] w fun e w' => e = .returned (.int .i64 (lidx (isL Y) L)) ∧ Below w.heap.size w w' := by
 have H0 := hid h; clear h
 have HN := hid hn; clear hn
 have HSt := hid hS; clear hS
 go_enter Tryd.func33, Tryd.ntmps33
 go_wp2_with fail
 go_loopg [8] (n) (fun g i wr => ∃ k : Nat, k + g = n ∧ i = .int .i64 k ∧ (∀ s ∈ L.take k, (isL Y) s = false) ∧ Below w.heap.size w wr)
 case atStart => exact ⟨0, by omega, rfl, by simp, Below.refl _ _⟩
 case round =>
  obtain ⟨k, hk, rfl, hno, hB⟩ := hrel
  have HK := hid hk
  have HNo := hid hno
  have HB := hid hB
  have HT := hid (H0.out.below hB)
  have hle : k ≤ n := by omega
  clear hk hno hB
  by_cases hlt : k < n
  · have hlt' : k < L.length := by rw [HN.out]; exact hlt
    obtain ⟨ad, rfl, hp, u, c0, Ax, nx, cx, rfl, zx, hxl, hxc, hxd⟩ := HT.out k hlt'
    have HTk := hid (List.take_succ_eq_append_getElem hlt')
    have HAt := hid (lidx_at (p := (isL Y)) hlt')
    have hXm := List.getElem_mem hlt'
    generalize L[k] = X at *
    have HX := hid (vt1_any Ax nx cx X pb Ay ny cy Y wr zx hxl (by omega) (HSt.out.below HB.out) hy)
    clear hlt' zx hxl hXm
    cases hv : (isL Y) X with
    | true =>
     rw [hv] at HX
     have HV := hid (HAt.out hv HNo.out); clear hv
     go_wp2_with fail
     ((with_reducible refine HX.out.mono ?_); rintro e w1 ⟨rfl, hb1⟩)
     have HB1 := hid (below_then HB.out hb1)
     go_wp2_with fail
     go_ret
     exact ⟨ret_int HV.out.symm, HB1.out⟩
    | false =>
     rw [hv] at HX
     have HV := hid hv; clear hv HAt
     go_wp2_with fail
     ((with_reducible refine HX.out.mono ?_); rintro e w1 ⟨rfl, hb1⟩)
     have HB1 := hid (below_then HB.out hb1)
     clear hb1
     go_wp2_with fail
     go_roundg (gk - 1)
     case measure => have := HK.out; omega
     case rel => exact ⟨k + 1, by have := HK.out; omega, by go_num, by
      rw [HTk.out]; intro s hs
      rcases List.mem_append.1 hs with h1 | h1
      · exact HNo.out s h1
      · have : s = X := by simpa using h1
        rw [this]; exact HV.out, HB1.out⟩
  · have HV := hid (show lidx (isL Y) L = -1 from lidx_no (by have := HNo.out; rwa [List.take_of_length_le (by rw [HN.out]; omega)] at this))
    go_wp2_with fail
    go_ret
    exact ⟨ret_int HV.out.symm, HB.out⟩
set_option maxHeartbeats 800000 in
theorem lcont_vt (A : Option Addr) (n cap : Nat) (L : List (List Int)) (w : World) (h : LIn w A L) (hn : L.length = n) (hn4 : n ≤ 9223372036854775806) (pb : Nat) (Ay : Option Addr) (ny cy : Nat) (Y : List Int) (hy : ny ≤ 9223372036854775807) (hS : MB w pb Ay ny cy Y) :
 Calls Tryd.prog 11 #[.slice A n cap, .func (.func 12) #[] #[.pointer (some ⟨pb, 0, none⟩)]] w fun e w' => e = .returned (.bool (L.any (isL Y))) ∧ Below w.heap.size w w' := by
 have HI := hid (lindex_vt A n cap L w h hn hn4 pb Ay ny cy Y hy hS)
 have HE := hid (lidx_any (isL Y) L)
 clear h hn hS
 generalize lidx (isL Y) L = r at HI HE
 go_enter Tryd.func11, Tryd.ntmps11
 go_wp2_with fail
 ((with_reducible refine HI.out.mono ?_); rintro e w1 ⟨rfl, hb1⟩)
 have HB1 := hid hb1
 go_wp2_with fail
 go_ret
 exact ⟨ret_bool HE.out, HB1.out⟩
end
end Go.Proofs.YtpnhcimmlnjfaaaDoor
