/- cover.closed, cover.Check: what a call returns. cover.Check: what a call returns. -/
import Derived.Test.YtjojmmabcjccdaaDoorIf
import Derived.Test.YtjojmmabcjccdaaDoorIh
namespace Go.Proofs.YtjojmmabcjccdaaDoor
section
open Go.RowKit

theorem plainElem_bool_inv {P : Program} {e : TypeId} (he : P.underlying e = some .bool) {v : Value} {z : DataW Unit × List MemPlace} (h : plainElem P e v = some z) : ∃ x, v = .bool x ∧ z = (.lit (.bool x), []) := by
  unfold plainElem at h
  rw [he] at h
  cases v <;> simp at h
  subst h
  exact ⟨_, rfl, rfl⟩
theorem zeroBool (w : World) : (zeroValue 4).run Tryd.prog w = .ok (.bool false) w := by kernel_rfl
theorem litb_inj {a b : Bool} (h : (DataW.lit (.bool a) : DataW Unit) = .lit (.bool b)) : a = b := by cases h; rfl
/-- a set of markings -/
def KBm (w : World) (mb : Nat) (L : List (List Int)) : Prop :=
  ∃ (n : Nat) (D : DataW Unit), w.ownsMap Tryd.prog 9 (plainElem Tryd.prog 4) mb n D ∧ n ≤ L.length ∧ (∀ z, Maps.has D (klit z) = decide (z ∈ L)) ∧ ∀ z ∈ L, ∀ zd, D.atKey (klit z) zd = .lit (.bool true)
theorem KBm.made (w : World) : KBm (w.alloc (.map #[] 0)) w.heap.size [] :=
  ⟨0, .map [], World.ownsMap_made _ _ _ _, Nat.le_refl _, fun z => rfl, fun z h => by simp at h⟩
theorem KBm.lt {w : World} {mb : Nat} {L : List (List Int)} (h : KBm w mb L) : mb < w.heap.size := by obtain ⟨n, D, h1, _⟩ := h; exact h1.lt
theorem KBm.below {w w' : World} {mb : Nat} {L : List (List Int)} (h : KBm w mb L) (hb : Below w.heap.size w w') : KBm w' mb L := by
  obtain ⟨n, D, h1, h2⟩ := h
  have hlt := h1.lt
  obtain ⟨es, clock, hb', r⟩ := h1
  exact ⟨n, D, ⟨es, clock, by rw [hb.block mb hlt]; exact hb', r⟩, h2⟩
theorem KBm.look {w : World} {mb : Nat} {L : List (List Int)} (h : KBm w mb L) {z : List Int} (hz : okZ z) :
    (Instr.lookup 108 (.map (some mb)) (.string ⟨(keyL z).toArray⟩) false).run Tryd.prog w = .ok (.bool (decide (z ∈ L))) w := by
  obtain ⟨n, D, h1, h2, h3, h4⟩ := h
  obtain ⟨v, ps, hrun, hR⟩ := h1.lookup (Maps.string_keyed Tryd.underlying9) Tryd.underlying108 (zeroBool w) (plainElem_bool Tryd.underlying4 false) (klit_key hz)
  rw [hrun]
  obtain ⟨x, rfl, hx⟩ := plainElem_bool_inv Tryd.underlying4 hR
  simp only [Prod.mk.injEq] at hx
  by_cases hm : z ∈ L
  · rw [h4 z hm] at hx
    rw [decide_eq_true hm, litb_inj hx.1]
  · have : D.atKey (klit z) (.lit (.bool false)) = .lit (.bool false) := Maps.atKey_of_not_has (by rw [h3 z]; simpa using hm) _
    rw [this] at hx
    rw [decide_eq_false hm, litb_inj hx.1]
theorem KBm.store {w : World} {mb : Nat} {L : List (List Int)} (h : KBm w mb L) {z : List Int} (hz : okZ z) (hl : L.length < 9223372036854775807) :
    ∃ w', (Instr.mapUpdate 108 (.map (some mb)) (.string ⟨(keyL z).toArray⟩) (.bool true)).run Tryd.prog w = .ok () w' ∧ KBm w' mb (L ++ [z]) ∧ w.grownBy w' (some mb) := by
  obtain ⟨n, D, h1, h2, h3, h4⟩ := h
  obtain ⟨w', hrun, hown, hgr⟩ := h1.update (Maps.string_keyed Tryd.underlying9) Tryd.underlying108 (by unfold maxLen; omega) (klit_key hz) (plainElem_bool Tryd.underlying4 true)
  have hI : Maps.IsMap D := h1.isMap
  refine ⟨w', hrun, ⟨n + 1, _, hown, by rw [List.length_append]; simp; omega, fun y => ?_, fun y hy zd => ?_⟩, hgr⟩
  · by_cases e : y = z
    · subst e
      rw [Maps.has_put_same hI (klit_is _)]; simp
    · rw [Maps.has_put_other (fun h => e (klit_inj h)), h3 y]; simp [e]
  · by_cases e : y = z
    · subst e
      rw [Maps.atKey_put_same hI (klit_is _)]
    · rw [Maps.atKey_put_other (fun h => e (klit_inj h))]
      refine h4 y ?_ zd
      rcases List.mem_append.1 hy with h5 | h5
      · exact h5
      · simp at h5; exact absurd h5 e
theorem mk_okZ {N : Nt} {M : List Int} (h : mkB N M = true) : okZ M := by
  refine ⟨fun x hx => by have := mk_nums h x hx; omega, ?_⟩
  have := mk_len h; have := nt_small (mk_nt h); omega
/-- a transition, by its number, leads to a marking of a list -/
def okF (N : Nt) (LL : List (List Int)) (s : List Int) (t : Int) : Bool := decide ((fireV N s t).2 = 0) && decide ((fireV N s t).1 ∈ LL)
theorem en_all {N : Nt} {LL : List (List Int)} {s : List Int} (h : mkB N s = true) : (enV N s).all (okF N LL s) = okS N LL N.tr.length s := by
  have key : ∀ k, k ≤ N.tr.length → (enTo N s k).all (okF N LL s) = okS N LL k s := by
    intro k
    induction k with
    | zero => intro _; rfl
    | succ k ih =>
      intro hk
      have h1 := ih (by omega)
      have hx : N.tr[k]? = some N.tr[k] := List.getElem?_eq_getElem (by omega)
      rw [okS_succ]
      cases hc : canAt N s k with
      | false =>
        rw [en_no _ _ _ hc, h1]
        rw [canAt_get _ _ _ (by omega)] at hc
        rw [okT_can hx hc]; simp
      | true =>
        rw [en_yes _ _ _ hc, List.all_append, h1]
        rw [canAt_get _ _ _ (by omega)] at hc
        rw [okT_fire hx hc]
        simp [okF]
  unfold enV
  rw [h, if_pos rfl]
  exact key _ (Nat.le_refl _)
/-- the loop that gathers the markings -/
def C1I (N : Nt) (LL : List (List Int)) (nl : Nat) (w0 : World) (mb g : Nat) (iv : Value) (wr : World) : Prop :=
  ∃ k : Nat, k + g = nl ∧ iv = .int .i64 (k : Int) ∧ (LL.take k).all (mkB N) = true ∧ KBm wr mb (LL.take k) ∧ Below w0.heap.size w0 wr
/-- the loop that fires -/
def C2I (N : Nt) (LL : List (List Int)) (nl : Nat) (w0 : World) (mb g : Nat) (iv : Value) (wr : World) : Prop :=
  ∃ k : Nat, k + g = nl ∧ iv = .int .i64 (k : Int) ∧ (LL.take k).all (okS N LL N.tr.length) = true ∧ KBm wr mb LL ∧ Below w0.heap.size w0 wr
/-- the loop over the transitions -/
def C3I (N : Nt) (LL : List (List Int)) (X E : List Int) (n : Nat) (w0 we : World) (mb g : Nat) (iv : Value) (wr : World) : Prop :=
  ∃ k : Nat, k + g = n ∧ iv = .int .i64 (k : Int) ∧ (E.take k).all (okF N LL X) = true ∧ KBm wr mb LL ∧ Below w0.heap.size w0 wr ∧ Below we.heap.size we wr
set_option maxHeartbeats 12800000 in
set_option maxRecDepth 100000 in
theorem cclosed_any (N : Nt) (A : Option Addr) (n c : Nat) (Am : Option Addr) (m cm : Nat) (M : List Int) (Al : Option Addr) (nl cl : Nat) (LL : List (List Int)) (w : World) (ht : Tb w) (h : NtIn w A N) (hn : N.tr.length = n) (hn2 : n ≤ 9223372036854775806) (hM : ZIn w Am M) (hm : M.length = m) (hmk : mkB N M = true) (hL : LIn w Al LL) (hl : LL.length = nl) (hl2 : nl ≤ 9223372036854775806) :
    Calls Tryd.prog 60 #[.agg #[.int .i64 N.pl, .slice A n c, .int .i64 N.src, .int .i64 N.snk], .slice Am m cm, .slice Al nl cl] w fun e w' => e = .returned (.bool (closedB N M LL)) ∧ Below w.heap.size w w' := by
  have HB := Lib.hid (below_alloc w (.cells #[.int .i64 N.pl, .slice A n c, .int .i64 N.src, .int .i64 N.snk] 24))
  have HNb := Lib.hid (NB.new w N.pl A n c N.src N.snk)
  have HIn := Lib.hid (h.below HB.out)
  have HM := Lib.hid (hM.below HB.out)
  have HL := Lib.hid (hL.below HB.out)
  have HT := Lib.hid (ht.below HB.out)
  have HMl := Lib.hid hm
  have HLl := Lib.hid hl
  have HNl := Lib.hid hn
  have HMk := Lib.hid hmk
  have hm40 : m ≤ 1000 := by have := nt_small (mk_nt hmk); have := mk_len hmk; omega
  clear h hn hM hm hL hl hmk ht
  have hmm := @run_makeMap Tryd.prog
  go_enter Tryd.func60, Tryd.ntmps60
  go_wp2_with fail
  have hs0 : (w.alloc (.cells #[.int .i64 N.pl, .slice A n c, .int .i64 N.src, .int .i64 N.snk] 24)).heap.size = w.heap.size + 1 := by simp
  generalize w.alloc _ = w0 at *
  generalize w.heap.size + 1 = mb at *
  have HS0 := Lib.hid hs0
  clear hmm hs0
  go_loopg [23] (nl) (fun g iv wr => C1I N LL nl w0 mb g iv wr)
  case atStart => exact ⟨0, by omega, rfl, by simp, by rw [← HS0.out]; exact KBm.made w0, below_alloc w0 _⟩
  case round =>
    obtain ⟨k, hk, rfl, hp, hKm, hB⟩ := hrel
    have HK := Lib.hid hk
    have HP := Lib.hid hp
    have HKm := Lib.hid hKm
    have HBr := Lib.hid hB
    have HLr := Lib.hid (HL.out.below hB)
    have hle : k ≤ nl := by omega
    obtain ⟨b0, b1, b2, b3⟩ := (HNb.out.below hB).cells
    clear hk hp hB hKm
    by_cases hlt : k < nl
    · have hlt' : k < LL.length := by rw [HLl.out]; exact hlt
      obtain ⟨al, rfl, hpa, u, q0, Ax, nx, cx, rfl, zx, hx1, hx2, hx3⟩ := HLr.out k hlt'
      have HTk := Lib.hid (all_take (mkB N) hlt')
      have HTl := Lib.hid (List.take_succ_eq_append_getElem hlt')
      have HNo := Lib.hid (all_no (mkB N) (List.getElem_mem hlt'))
      have HLn := Lib.hid (show (LL.take k).length = k by rw [List.length_take]; omega)
      generalize LL[k] = X at *
      have HZx := Lib.hid zx
      have HXl := Lib.hid hx1
      have HEn := Lib.hid (penabled_any N A n c Ax nx cx X wr (HIn.out.below HBr.out) HNl.out (by omega) zx hx1 (by omega))
      clear hlt' zx hx1
      cases hk : mkB N X with
      | false =>
        have HE := Lib.hid (show enE N X = 1 by unfold enE; rw [hk]; rfl)
        have HV := Lib.hid (show closedB N M LL = false by unfold closedB; rw [HNo.out hk]; simp)
        clear hk HNo
        go_wp2_with fail
        ((with_reducible refine HEn.out.mono ?_); rintro e w1 ⟨v, rfl, hS⟩)
        obtain ⟨Av, cv, rfl⟩ := hS.slice
        have HB1 := Lib.hid (below_then HBr.out hS.2)
        rw [HE.out]
        clear hS
        go_wp2_with fail
        go_ret
        exact ⟨ret_bool HV.out.symm, HB.out.trans (HB1.out.mono HB.out.size)⟩
      | true =>
        have HE := Lib.hid (show enE N X = 0 by unfold enE; rw [hk]; rfl)
        have HV := Lib.hid (show (LL.take (k + 1)).all (mkB N) = true by rw [HTk.out, HP.out, hk]; rfl)
        have HOk := Lib.hid (mk_okZ hk)
        have hnx : nx ≤ 1000 := by have := nt_small (mk_nt hk); have := mk_len hk; have := HXl.out; omega
        clear hk HNo
        go_wp2_with fail
        ((with_reducible refine HEn.out.mono ?_); rintro e w1 ⟨v, rfl, hS⟩)
        obtain ⟨Av, cv, rfl⟩ := hS.slice
        have HB1 := Lib.hid (below_then HBr.out hS.2)
        have HKm1 := Lib.hid (HKm.out.below hS.2)
        have HKy := Lib.hid (key_any Ax nx cx X w1 (HZx.out.below hS.2) HXl.out (by omega) HOk.out.1 (HT.out.below HB1.out))
        rw [HE.out]
        clear hS HEn
        go_wp2_with fail
        ((with_reducible refine HKy.out.mono ?_); rintro e w2 ⟨rfl, hb2⟩)
        have HB2 := Lib.hid (below_then HB1.out hb2)
        have HKm2 := Lib.hid (HKm1.out.below hb2)
        obtain ⟨w3, hrun, hkm3, hgr3⟩ := HKm2.out.store HOk.out (by rw [HLn.out]; omega)
        have HKm3 := Lib.hid hkm3
        rw [← HTl.out] at HKm3
        have HB3 := Lib.hid (HB2.out.grown hgr3 HB2.out.size (fun k hk => by cases hk; rw [HS0.out]; exact Nat.le_refl _))
        clear hb2 HKy hkm3 hgr3
        go_wp2_with fail
        go_roundg (gk - 1)
        case measure => have := HK.out; omega
        case rel => exact ⟨k + 1, by have := HK.out; omega, by go_num, HV.out, HKm3.out, HB3.out⟩
    · have HAll := Lib.hid (show LL.all (mkB N) = true by have := HP.out; rwa [List.take_of_length_le (by rw [HLl.out]; omega)] at this)
      have HKa := Lib.hid (show KBm wr mb LL by have := HKm.out; rwa [List.take_of_length_le (by rw [HLl.out]; omega)] at this)
      clear HP HLr HKm
      go_wp2_with fail
      clear hle b0 b1 b2 b3 hlt HK
      go_loopg [41] (nl) (fun g iv wr => C2I N LL nl w0 mb g iv wr)
      case atStart => exact ⟨0, by omega, rfl, by simp, HKa.out, HBr.out⟩
      case round =>
        clear HBr HKa
        obtain ⟨k, hk, rfl, hp, hKm, hB⟩ := hrel
        have HK := Lib.hid hk
        have HP := Lib.hid hp
        have HKm := Lib.hid hKm
        have HBr := Lib.hid hB
        have HLr := Lib.hid (HL.out.below hB)
        have hle : k ≤ nl := by omega
        obtain ⟨b0, b1, b2, b3⟩ := (HNb.out.below hB).cells
        clear hk hp hB hKm
        by_cases hlt : k < nl
        · have hlt' : k < LL.length := by rw [HLl.out]; exact hlt
          have HTk := Lib.hid (all_take (okS N LL N.tr.length) hlt')
          have HNo := Lib.hid (all_no (okS N LL N.tr.length) (List.getElem_mem hlt'))
          have HMx := Lib.hid (List.all_eq_true.1 HAll.out _ (List.getElem_mem hlt'))
          obtain ⟨al, rfl, hpa, u, q0, Ax, nx, cx, rfl, zx, hx1, hx2, hx3⟩ := HLr.out k hlt'
          generalize LL[k] = X at *
          have HZx := Lib.hid zx
          have HXl := Lib.hid hx1
          have hnx : nx ≤ 1000 := by have := nt_small (mk_nt HMx.out); have := mk_len HMx.out; omega
          have HEn := Lib.hid (penabled_any N A n c Ax nx cx X wr (HIn.out.below HBr.out) HNl.out (by omega) zx hx1 (by omega))
          have HEa := Lib.hid (en_all (LL := LL) HMx.out)
          have HEl := Lib.hid (show (enV N X).length ≤ 60 by
            unfold enV; rw [HMx.out, if_pos rfl]
            have h1 := en_len N X N.tr.length
            have h2 := nt_small (mk_nt HMx.out)
            omega)
          clear hlt' zx hx1 HLr
          obtain ⟨go, rfl⟩ : ∃ go, go = gk := ⟨_, rfl⟩
          go_wp2_with fail
          ((with_reducible refine HEn.out.mono ?_); rintro e we ⟨v, rfl, hS⟩)
          obtain ⟨Av, cv, rfl⟩ := hS.slice
          have HZe := Lib.hid (show ZIn we Av (enV N X) by obtain ⟨A', c', e, hz, _⟩ := hS.zin; cases e; exact hz)
          have HBe := Lib.hid (below_then HBr.out hS.2)
          have HKe := Lib.hid (HKm.out.below hS.2)
          have HZxe := Lib.hid (HZx.out.below hS.2)
          obtain ⟨ne, hne⟩ : ∃ ne, ne = (enV N X).length := ⟨_, rfl⟩
          have HNe := Lib.hid hne
          rw [← hne] at HEl ⊢
          clear hS HEn HBr HKm HZx b0 b1 b2 b3 hne
          generalize enV N X = E at *
          have hne60 := HEl.out
          go_wp2_with fail
          go_loopg [53] (ne) (fun g iv wr => C3I N LL X E ne w0 we mb g iv wr)
          case atStart => exact ⟨0, by omega, rfl, by simp, HKe.out, HBe.out, Below.refl _ _⟩
          case round =>
            clear HBe HKe
            obtain ⟨j, hj, rfl, hp, hKm, hB, hBe⟩ := hrel
            have HJ := Lib.hid hj
            have HPj := Lib.hid hp
            have HKm := Lib.hid hKm
            have HBr := Lib.hid hB
            have HZer := Lib.hid (HZe.out.below hBe)
            have HZxr := Lib.hid (HZxe.out.below hBe)
            have HBer := Lib.hid hBe
            have hjl : j ≤ ne := by omega
            obtain ⟨b0, b1, b2, b3⟩ := (HNb.out.below hB).cells
            clear hj hp hB hKm hBe
            by_cases hjt : j < ne
            · have hjt' : j < E.length := by rw [← HNe.out]; exact hjt
              obtain ⟨ae, rfl, hpe, q5⟩ := HZer.out j hjt'
              have HTj := Lib.hid (show (E.take (j + 1)).all (okF N LL X) = ((E.take j).all (okF N LL X) && okF N LL X E[j]) by rw [List.take_succ_eq_append_getElem hjt', List.all_append]; simp)
              have HAn := Lib.hid (fun (hf : okF N LL X E[j] = false) => all_no (okF N LL X) (List.getElem_mem hjt') hf)
              generalize E[j] = t at *
              have hfi := pFire_any N A n c Ax nx cx X t wr (HIn.out.below HBr.out) HNl.out (by omega) HZxr.out HXl.out (by omega)
              rw [show fire21 N X t = fireV N X t by unfold fire21; rw [HMx.out]; rfl] at hfi
              have HFi := Lib.hid hfi
              clear hfi hjt'
              by_cases h0 : (fireV N X t).2 = 0
              · have HFy := Lib.hid (fv_yes HFi.out h0)
                have HMy := Lib.hid (fire_mk HMx.out h0)
                have HF := Lib.hid (show okF N LL X t = decide ((fireV N X t).1 ∈ LL) by unfold okF; rw [decide_eq_true h0]; rfl)
                clear HFi h0
                generalize (fireV N X t).1 = Y at *
                have HOk := Lib.hid (mk_okZ HMy.out)
                go_wp2_with fail
                ((with_reducible refine HFy.out.mono ?_); rintro e w4 ⟨v4, rfl, hS4⟩)
                obtain ⟨A4, c4, rfl⟩ := hS4.slice
                have HB4 := Lib.hid (below_then HBr.out hS4.2)
                have HBe4 := Lib.hid (below_then HBer.out hS4.2)
                have HKm4 := Lib.hid (HKm.out.below hS4.2)
                have HKy := Lib.hid (key_any A4 Y.length c4 Y w4 (show ZIn w4 A4 Y by obtain ⟨A', c', e, hz, _⟩ := hS4.zin; cases e; exact hz) rfl (HOk.out.2) HOk.out.1 (HT.out.below HB4.out))
                clear hS4 HFy
                by_cases hmem : Y ∈ LL
                · have HV := Lib.hid (show (E.take (j + 1)).all (okF N LL X) = true by rw [HTj.out, HPj.out, HF.out, decide_eq_true hmem]; rfl)
                  go_wp2_with fail
                  ((with_reducible refine HKy.out.mono ?_); rintro e w5 ⟨rfl, hb5⟩)
                  have HB5 := Lib.hid (below_then HB4.out hb5)
                  have HBe5 := Lib.hid (below_then HBe4.out hb5)
                  have HKm5 := Lib.hid (HKm4.out.below hb5)
                  have hlook := HKm5.out.look HOk.out
                  rw [decide_eq_true hmem] at hlook
                  clear hb5 hmem
                  go_wp2_with fail
                  go_roundg (gk - 1)
                  case measure => have := HJ.out; omega
                  case rel => exact ⟨j + 1, by have := HJ.out; omega, by go_num, HV.out, HKm5.out, HB5.out, HBe5.out⟩
                · have HV := Lib.hid (show closedB N M LL = false by
                    unfold closedB
                    rw [HNo.out (by rw [← HEa.out]; exact HAn.out (by rw [HF.out, decide_eq_false hmem]))]; simp)
                  go_wp2_with fail
                  ((with_reducible refine HKy.out.mono ?_); rintro e w5 ⟨rfl, hb5⟩)
                  have HB5 := Lib.hid (below_then HB4.out hb5)
                  have HKm5 := Lib.hid (HKm4.out.below hb5)
                  have hlook := HKm5.out.look HOk.out
                  rw [decide_eq_false hmem] at hlook
                  clear hb5 hmem
                  go_wp2_with fail
                  go_ret
                  exact ⟨ret_bool HV.out.symm, HB.out.trans (HB5.out.mono HB.out.size)⟩
              · have HFn := Lib.hid (fv_no HFi.out h0)
                have HV := Lib.hid (show closedB N M LL = false by
                  unfold closedB
                  rw [HNo.out (by rw [← HEa.out]; exact HAn.out (by unfold okF; rw [decide_eq_false h0]; rfl))]; simp)
                have q6 : ((fireV N X t).2 != 0) = true := by rw [bne_iff_ne]; exact h0
                clear HFi h0
                generalize (fireV N X t).2 = er at *
                go_wp2_with fail
                ((with_reducible refine HFn.out.mono ?_); rintro e w4 ⟨rfl, hb4⟩)
                have HB4 := Lib.hid (below_then HBr.out hb4)
                go_wp2_with fail
                go_ret
                exact ⟨ret_bool HV.out.symm, HB.out.trans (HB4.out.mono HB.out.size)⟩
            · have HV := Lib.hid (show (LL.take (k + 1)).all (okS N LL N.tr.length) = true by
                rw [HTk.out, HP.out, ← HEa.out]
                have h1 := HPj.out
                rw [List.take_of_length_le (by rw [← HNe.out]; omega)] at h1
                rw [h1]; rfl)
              go_wp2_with fail
              go_roundg (go - 1)
              case measure => have := HK.out; omega
              case rel => exact ⟨k + 1, by have := HK.out; omega, by go_num, HV.out, HKm.out, HBr.out⟩
        · have HV := Lib.hid (show closedB N M LL = decide (M ∈ LL) by
            unfold closedB
            have h1 := HP.out
            rw [List.take_of_length_le (by rw [HLl.out]; omega)] at h1
            rw [HAll.out, h1]; simp)
          have HOk := Lib.hid (mk_okZ HMk.out)
          have HKy := Lib.hid (key_any Am m cm M wr (HM.out.below HBr.out) HMl.out (by omega) HOk.out.1 (HT.out.below HBr.out))
          go_wp2_with fail
          ((with_reducible refine HKy.out.mono ?_); rintro e w5 ⟨rfl, hb5⟩)
          have HB5 := Lib.hid (below_then HBr.out hb5)
          have hlook := (HKm.out.below hb5).look HOk.out
          go_wp2_with fail
          go_ret
          exact ⟨ret_bool HV.out.symm, HB.out.trans (HB5.out.mono HB.out.size)⟩
end
section
open Go.RowKit

set_option maxHeartbeats 12800000 in
set_option maxRecDepth 100000 in
theorem ccheck_any (N : Nt) (A : Option Addr) (n c : Nat) (Am : Option Addr) (m cm : Nat) (M : List Int) (v : Value) (C : Ct) (w : World) (ht : Tb w) (h : NtIn w A N) (hn : N.tr.length = n) (hn2 : n ≤ 9223372036854775807) (hM : ZIn w Am M) (hm : M.length = m) (hm2 : m ≤ 9223372036854775807) (hC : CtIn w v C) :
    Calls Tryd.prog 33 #[.agg #[.int .i64 N.pl, .slice A n c, .int .i64 N.src, .int .i64 N.snk], .slice Am m cm, v] w fun e w' => e = .returned (.bool (chkB N M C)) ∧ Below w.heap.size w w' := by
  obtain ⟨Ar, nr, cr, Ap, np, cp, Ak, nk, ck, A5, n5, c5, A6, n6, c6, A7, n7, c7, rfl, ⟨hr1, hr2⟩, ⟨hp1, hp2⟩, hq1, hq2, hq3⟩ := hC
  have HB := Lib.hid (two_boxes w (.cells #[.int .i64 N.pl, .slice A n c, .int .i64 N.src, .int .i64 N.snk] 24) (.cells #[.int .i64 C.cl, .int .i64 C.n, .slice Ar nr cr, .slice Ap np cp, .slice Ak nk ck, .slice A5 n5 c5, .slice A6 n6 c6, .slice A7 n7 c7] 41))
  have hnew := heap_alloc_new (w.alloc (.cells #[.int .i64 N.pl, .slice A n c, .int .i64 N.src, .int .i64 N.snk] 24)) (.cells #[.int .i64 C.cl, .int .i64 C.n, .slice Ar nr cr, .slice Ap np cp, .slice Ak nk ck, .slice A5 n5 c5, .slice A6 n6 c6, .slice A7 n7 c7] 41)
  rw [World.size_alloc] at hnew
  have HCt := Lib.hid (show CtB _ (w.heap.size + 1) #[.int .i64 C.cl, .int .i64 C.n, .slice Ar nr cr, .slice Ap np cp, .slice Ak nk ck, .slice A5 n5 c5, .slice A6 n6 c6, .slice A7 n7 c7] from hnew)
  have HNb := Lib.hid ((NB.new w N.pl A n c N.src N.snk).below (below_alloc _ (.cells #[.int .i64 C.cl, .int .i64 C.n, .slice Ar nr cr, .slice Ap np cp, .slice Ak nk ck, .slice A5 n5 c5, .slice A6 n6 c6, .slice A7 n7 c7] 41)))
  have HIn := Lib.hid (h.below HB.out)
  have HM := Lib.hid (hM.below HB.out)
  have HR := Lib.hid (hr1.below HB.out)
  have HP := Lib.hid (hp1.below HB.out)
  have HK := Lib.hid (hq1.below HB.out)
  have HRl := Lib.hid hr2
  have HPl := Lib.hid hp2
  have HKl := Lib.hid hq2
  have HMl := Lib.hid hm
  have HNl := Lib.hid hn
  have HT := Lib.hid (ht.below HB.out)
  clear ht h hn hM hm hr1 hp1 hq1 hr2 hp2 hq2 hnew
  go_enter Tryd.func33, Tryd.ntmps33
  go_wp2_with fail
  generalize (w.alloc _).alloc _ = wa at *
  obtain ⟨b0, b1, b2, b3⟩ := HNb.out.cells
  have HEn := Lib.hid (penabled_any N A n c Am m cm M wa HIn.out HNl.out hn2 HM.out HMl.out hm2)
  cases hk : mkB N M with
  | false =>
    have HE := Lib.hid (show enE N M = 1 by unfold enE; rw [hk]; rfl)
    have HV := Lib.hid (show chkB N M C = false by unfold chkB; rw [hk]; rfl)
    ((with_reducible refine HEn.out.mono ?_); rintro e w1 ⟨v, rfl, hS⟩)
    obtain ⟨Av, cv, rfl⟩ := hS.slice
    have HFin := Lib.hid (below_then HB.out hS.2)
    rw [HE.out]
    go_wp2_with fail
    go_ret
    exact ⟨ret_bool HV.out.symm, HFin.out⟩
  | true =>
    have HE := Lib.hid (show enE N M = 0 by unfold enE; rw [hk]; rfl)
    have HMk := Lib.hid hk
    have hn60 : n ≤ 60 := by have := nt_small (mk_nt hk); have := HNl.out; omega
    ((with_reducible refine HEn.out.mono ?_); rintro e w2 ⟨v, rfl, hS⟩)
    obtain ⟨Av, cv, rfl⟩ := hS.slice
    have hb2 := hS.2
    have HB2 := Lib.hid (below_then HB.out hb2)
    have HT2 := Lib.hid (HT.out.below hb2)
    rw [HE.out]
    have HNb2 := Lib.hid (HNb.out.below hb2)
    have HIn2 := Lib.hid (HIn.out.below hb2)
    have HM2 := Lib.hid (HM.out.below hb2)
    have HR2 := Lib.hid (HR.out.below hb2)
    have HP2 := Lib.hid (HP.out.below hb2)
    have HK2 := Lib.hid (HK.out.below hb2)
    have HCt2 := Lib.hid (HCt.out.below hb2)
    clear hb2 hS HEn b0 b1 b2 b3 hk HB HNb HIn HM HR HP HK HCt
    obtain ⟨b0, b1, b2, b3⟩ := HNb2.out.cells
    obtain ⟨x0, x1, x2, x3, x4, x5, x6, x7⟩ := HCt2.out.cells
    by_cases h5 : C.cl = 5
    · have q1 : (C.cl == 5) = true := by rw [h5]; rfl
      have HX := Lib.hid (show chkB N M C = closedB N M C.marks by unfold chkB; rw [HMk.out, if_pos h5]; rfl)
      have HCl := Lib.hid (cclosed_any N A n c Am m cm M Ak nk ck C.marks w2 HT2.out HIn2.out HNl.out (by omega) HM2.out HMl.out HMk.out HK2.out HKl.out hq3)
      clear h5
      go_wp2_with fail
      ((with_reducible refine HCl.out.mono ?_); rintro e w3 ⟨rfl, hb3⟩)
      have HB3 := Lib.hid (below_then HB2.out hb3)
      go_wp2_with fail
      go_ret
      exact ⟨ret_bool HX.out.symm, HB3.out⟩
    have q1 : (C.cl == 5) = false := by simpa using h5
    have HX := Lib.hid (show chkB N M C = (!badC N C && pumpB N M C) by unfold chkB; rw [HMk.out, if_neg h5]; rfl)
    clear h5
    by_cases h6 : ¬ C.cl = 6
    · have q2 : (C.cl != 6) = true := by simpa using h6
      have HV := Lib.hid (show chkB N M C = false by rw [HX.out]; unfold badC; rw [decide_eq_true h6]; rfl)
      clear h6
      go_wp2_with fail
      go_ret
      exact ⟨ret_bool HV.out.symm, HB2.out⟩
    replace h6 := Classical.not_not.1 h6
    have q2 : (C.cl != 6) = false := by rw [h6]; rfl
    by_cases hp : np = 0
    · have q3 : ((np : Int) == 0) = true := by rw [hp]; rfl
      have HV := Lib.hid (show chkB N M C = false by rw [HX.out]; unfold badC; rw [HPl.out, decide_eq_true hp]; simp)
      clear h6 hp
      go_wp2_with fail
      go_ret
      exact ⟨ret_bool HV.out.symm, HB2.out⟩
    have q3 : ((np : Int) == 0) = false := by rw [beq_eq_false_iff_ne]; omega
    by_cases hn0 : C.n < 0
    · have q4 : decide (C.n < 0) = true := by simpa using hn0
      have HV := Lib.hid (show chkB N M C = false by rw [HX.out]; unfold badC; rw [decide_eq_true hn0]; simp)
      clear h6 hp hn0
      go_wp2_with fail
      go_ret
      exact ⟨ret_bool HV.out.symm, HB2.out⟩
    have q4 : decide (C.n < 0) = false := by simpa using hn0
    by_cases hn1 : N.pl ≤ C.n
    · have q5 : decide (N.pl ≤ C.n) = true := by simpa using hn1
      have HV := Lib.hid (show chkB N M C = false by rw [HX.out]; unfold badC; rw [decide_eq_true hn1]; simp)
      clear h6 hp hn0 hn1
      go_wp2_with fail
      go_ret
      exact ⟨ret_bool HV.out.symm, HB2.out⟩
    have q5 : decide (N.pl ≤ C.n) = false := by simpa using hn1
    have HY := Lib.hid (show chkB N M C = pumpB N M C by
      rw [HX.out]; unfold badC
      rw [HPl.out, decide_eq_false (show ¬ C.cl ≠ 6 from fun h => h h6), decide_eq_false hp, decide_eq_false hn0, decide_eq_false hn1]; simp)
    have hk0 : 0 ≤ C.n := by omega
    have hk1 : C.n < N.pl := by omega
    clear h6 hp hn0 hn1 HX
    have HRn := Lib.hid (pRun_any N A n c Am m cm M Ar nr cr C.run w2 HIn2.out HNl.out hn2 HM2.out HMl.out hm2 HR2.out HRl.out)
    by_cases hr : ¬ (run21 N M C.run).2.2 = 0
    · have HRx := Lib.hid (rv_no HRn.out hr)
      have HV := Lib.hid (show chkB N M C = false by rw [HY.out]; unfold pumpB; rw [decide_eq_false hr]; rfl)
      have q6 : ((run21 N M C.run).2.2 != 0) = true := by rw [bne_iff_ne]; exact hr
      clear HRn hr HY
      generalize (run21 N M C.run).2.2 = er at *
      generalize (run21 N M C.run).2.1 = ei at *
      go_wp2_with fail
      ((with_reducible refine HRx.out.mono ?_); rintro e w3 ⟨rfl, hb3⟩)
      have HB3 := Lib.hid (below_then HB2.out hb3)
      go_wp2_with fail
      go_ret
      exact ⟨ret_bool HV.out.symm, HB3.out⟩
    replace hr := Classical.not_not.1 hr
    have HRx := Lib.hid (rv_yes HRn.out hr)
    have HMx := Lib.hid (run21_mk hr)
    have HZ := Lib.hid (show chkB N M C = (decide ((run21 N (run21 N M C.run).1 C.pump).2.2 = 0) && endB (run21 N M C.run).1 (run21 N (run21 N M C.run).1 C.pump).1 C.n) by rw [HY.out]; unfold pumpB; rw [decide_eq_true hr]; rfl)
    clear HRn hr HY
    generalize (run21 N M C.run).2.1 = ei at *
    generalize (run21 N M C.run).1 = X at *
    go_wp2_with fail
    ((with_reducible refine HRx.out.mono ?_); rintro e w3 ⟨vx, rfl, hSx⟩)
    have HB3 := Lib.hid (below_then HB2.out hSx.2)
    have HNb3 := Lib.hid (HNb2.out.below hSx.2)
    have HIn3 := Lib.hid (HIn2.out.below hSx.2)
    have HCt3 := Lib.hid (HCt2.out.below hSx.2)
    have HP3 := Lib.hid (HP2.out.below hSx.2)
    have hxl : (X.length : Int) = N.pl := mk_len HMx.out
    obtain ⟨Ax, cx, rfl⟩ := hSx.slice
    have HSx := Lib.hid (show ZIn w3 Ax X by obtain ⟨A', c', e, hz, _⟩ := hSx.zin; cases e; exact hz)
    clear hSx HRx HB2 HNb2 HIn2 HCt2 HP2 HM2 HR2 HK2 b0 b1 b2 b3 x0 x1 x2 x3 x4 x5 x6 x7
    obtain ⟨b0, b1, b2, b3⟩ := HNb3.out.cells
    obtain ⟨x0, x1, x2, x3, x4, x5, x6, x7⟩ := HCt3.out.cells
    have hx40 : X.length ≤ 40 := by have := nt_small (mk_nt HMx.out); omega
    have HXl := Lib.hid hxl
    clear hxl
    have HRn := Lib.hid (pRun_any N A n c Ax X.length cx X Ap np cp C.pump w3 HIn3.out HNl.out hn2 HSx.out rfl (by omega) HP3.out HPl.out)
    by_cases hr : ¬ (run21 N X C.pump).2.2 = 0
    · have HRy := Lib.hid (rv_no HRn.out hr)
      have HV := Lib.hid (show chkB N M C = false by rw [HZ.out, decide_eq_false hr]; rfl)
      have q6 : ((run21 N X C.pump).2.2 == 0) = false := by rw [beq_eq_false_iff_ne]; exact hr
      clear HRn hr HZ
      generalize (run21 N X C.pump).2.2 = er at *
      generalize (run21 N X C.pump).2.1 = ei2 at *
      go_wp2_with fail
      ((with_reducible refine HRy.out.mono ?_); rintro e w4 ⟨rfl, hb4⟩)
      have HB4 := Lib.hid (below_then HB3.out hb4)
      obtain ⟨x0, x1, x2, x3, x4, x5, x6, x7⟩ := HCt3.out.below hb4 |>.cells
      clear b0 b1 b2 b3
      go_wp2_with fail
      have a0 := fun d os => cell_regrown x1 d os
      refine wp_region_quiet_below (by kernel_rfl) (by kernel_rfl) ?_
      repeat (first | go_big_quiet_step (fail) | quiet_step (fail))
      refine wpQuiet_nil ?_
      intro _ hw'
      obtain ⟨⟨dq, osq⟩, hw''⟩ := hw'
      subst hw''
      clear a0
      have HB5 := Lib.hid (below_then HB4.out (below_regrown w4 dq osq))
      go_wp2_with fail
      go_ret
      exact ⟨ret_bool HV.out.symm, HB5.out⟩
    replace hr := Classical.not_not.1 hr
    have HRy := Lib.hid (rv_yes HRn.out hr)
    have HMy := Lib.hid (run21_mk hr)
    have HW := Lib.hid (show chkB N M C = endB X (run21 N X C.pump).1 C.n by rw [HZ.out, decide_eq_true hr]; rfl)
    clear HRn hr HZ
    generalize (run21 N X C.pump).2.1 = ei2 at *
    generalize (run21 N X C.pump).1 = Y at *
    go_wp2_with fail
    ((with_reducible refine HRy.out.mono ?_); rintro e w4 ⟨vy, rfl, hSy⟩)
    have HB4 := Lib.hid (below_then HB3.out hSy.2)
    have HCt4 := Lib.hid (HCt3.out.below hSy.2)
    have HSx4 := Lib.hid (HSx.out.below hSy.2)
    have hyl : (Y.length : Int) = N.pl := mk_len HMy.out
    have hxy : Y.length = X.length := by have := HXl.out; omega
    obtain ⟨Ay, cy, rfl⟩ := hSy.slice
    rw [hxy]
    have HYl := Lib.hid hxy
    have HSy := Lib.hid (show ZIn w4 Ay Y by obtain ⟨A', c', e, hz, _⟩ := hSy.zin; cases e; exact hz)
    obtain ⟨k, hk⟩ := Int.eq_ofNat_of_zero_le hk0
    have hkx : k < X.length := by have := HXl.out; omega
    have hky : k < Y.length := by omega
    have HEn := Lib.hid (show endB X Y C.n = (atMost X Y && decide (X[k] < Y[k])) by unfold endB; rw [hk]; simp [hkx, hky])
    rw [hk] at x1
    clear hSy HRy HB3 HNb3 HIn3 HP3 HSx b0 b1 b2 b3 x0 x1 x2 x3 x4 x5 x6 x7 hyl hxy
    obtain ⟨x0, x1, x2, x3, x4, x5, x6, x7⟩ := HCt4.out.cells
    rw [hk] at x1
    obtain ⟨ax, rfl, hpx, r0⟩ := HSx4.out k hkx
    obtain ⟨ay, rfl, hpy, r1⟩ := HSy.out k hky
    generalize X[k] = xk at *
    generalize Y[k] = yk at *
    have hk0' : (0 : Int) ≤ (k : Int) := by omega
    have hk1' : (k : Int) < (X.length : Int) := by omega
    go_wp2_with fail
    cases ha : atMost X Y with
    | false =>
      have HV := Lib.hid (show chkB N M C = false by rw [HW.out, HEn.out, ha]; rfl)
      have HAm := Lib.hid (fun d os => below_any (some ax) X.length cx (some ay) X.length cy X Y _ (HSx4.out.below (below_regrown w4 d os)) rfl (HSy.out.below (below_regrown w4 d os)) HYl.out (Nat.le_refl _) (by omega))
      rw [ha] at HAm
      clear ha
      have a0 := fun d os => cell_regrown x1 d os
      have a1 := fun d os => cell_regrown r0 d os
      have a2 := fun d os => cell_regrown r1 d os
      refine wp_region_quiet_below (by kernel_rfl) (by kernel_rfl) ?_
      repeat (first | go_big_quiet_step (exact Calls.regrown_of (HAm.out _ _)) | quiet_step (exact Calls.regrown_of (HAm.out _ _)))
      refine wpQuiet_nil ?_
      intro _ hw'
      obtain ⟨⟨dq, osq⟩, hw''⟩ := hw'
      subst hw''
      clear a0 a1 a2
      have HB5 := Lib.hid (below_then HB4.out (below_regrown w4 dq osq))
      go_wp2_with fail
      go_ret
      exact ⟨ret_bool HV.out.symm, HB5.out⟩
    | true =>
      have HV := Lib.hid (show chkB N M C = decide (xk < yk) by rw [HW.out, HEn.out, ha]; rfl)
      have HAm := Lib.hid (fun d os => below_any (some ax) X.length cx (some ay) X.length cy X Y _ (HSx4.out.below (below_regrown w4 d os)) rfl (HSy.out.below (below_regrown w4 d os)) HYl.out (Nat.le_refl _) (by omega))
      rw [ha] at HAm
      clear ha
      have a0 := fun d os => cell_regrown x1 d os
      have a1 := fun d os => cell_regrown r0 d os
      have a2 := fun d os => cell_regrown r1 d os
      refine wp_region_quiet_below (by kernel_rfl) (by kernel_rfl) ?_
      repeat (first | go_big_quiet_step (exact Calls.regrown_of (HAm.out _ _)) | quiet_step (exact Calls.regrown_of (HAm.out _ _)))
      refine wpQuiet_nil ?_
      intro _ hw'
      obtain ⟨⟨dq, osq⟩, hw''⟩ := hw'
      subst hw''
      clear a0 a1 a2
      have HB5 := Lib.hid (below_then HB4.out (below_regrown w4 dq osq))
      go_wp2_with fail
      go_ret
      exact ⟨ret_bool HV.out.symm, HB5.out⟩
end
end Go.Proofs.YtjojmmabcjccdaaDoor
