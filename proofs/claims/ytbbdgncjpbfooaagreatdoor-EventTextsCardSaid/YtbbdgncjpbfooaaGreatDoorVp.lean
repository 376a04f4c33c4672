/- EventTexts: what a call returns. -/
import Derived.Test.YtbbdgncjpbfooaaGreatDoorVo
import Derived.Test.YtbbdgncjpbfooaaGreatDoorVd
import Derived.Test.YtbbdgncjpbfooaaGreatDoorVe
import Derived.Test.YtbbdgncjpbfooaaGreatDoorVc
import Derived.Test.YtbbdgncjpbfooaaGreatDoorEu
namespace Go.Proofs.YtbbdgncjpbfooaaGreatDoor
open Go.RowKit

/-- while EventTexts runs: the event's block, its fields, what the library needs -/
def TxS (w wr : World) (e : Ev) (A : Option Addr) (n c : Nat) : Prop := EB wr w.heap.size e A n c ∧ FdIn wr A e.d ∧ PW wr ∧ Below w.heap.size w wr
theorem TxS.eb {w wr : World} {e : Ev} {A : Option Addr} {n c : Nat} (h : TxS w wr e A n c) : EB wr w.heap.size e A n c := h.1
theorem TxS.fd {w wr : World} {e : Ev} {A : Option Addr} {n c : Nat} (h : TxS w wr e A n c) : FdIn wr A e.d := h.2.1
theorem TxS.pw {w wr : World} {e : Ev} {A : Option Addr} {n c : Nat} (h : TxS w wr e A n c) : PW wr := h.2.2.1
theorem TxS.bel {w wr : World} {e : Ev} {A : Option Addr} {n c : Nat} (h : TxS w wr e A n c) : Below w.heap.size w wr := h.2.2.2
theorem TxS.below {w wr w' : World} {e : Ev} {A : Option Addr} {n c : Nat} (h : TxS w wr e A n c) (hb : Below wr.heap.size wr w') : TxS w w' e A n c :=
  ⟨h.1.below hb, h.2.1.below hb, h.2.2.1.below hb, below_then h.2.2.2 hb⟩
theorem TxS.new (w : World) (e : Ev) (A : Option Addr) (n c : Nat) (hP : PW w) (h : FdIn w A e.d) : TxS w (w.alloc (.cells #[.string e.c, .string e.a, .string e.r, .int .i64 e.life, .int .i64 e.time, .slice A n c] 24)) e A n c :=
  ⟨EB.new w e A n c, h.below (below_alloc w _), hP.below (below_alloc w _), below_alloc w _⟩
/-- an event in a block, with its fields -/
def EvB (wr : World) (b : Nat) (e : Ev) (A : Option Addr) (c : Nat) : Prop := EB wr b e A e.d.length c ∧ FdIn wr A e.d
theorem EvB.below {wr w' : World} {b : Nat} {e : Ev} {A : Option Addr} {c : Nat} (h : EvB wr b e A c) (hb : Below wr.heap.size wr w') : EvB w' b e A c := ⟨h.1.below hb, h.2.below hb⟩
theorem EvB.fd {wr : World} {b : Nat} {e : Ev} {A : Option Addr} {c : Nat} (h : EvB wr b e A c) : FdIn wr A e.d := h.2
theorem EvB.new (w : World) (e : Ev) (A : Option Addr) (c : Nat) (h : FdIn w A e.d) : EvB (w.alloc (.cells #[.string e.c, .string e.a, .string e.r, .int .i64 e.life, .int .i64 e.time, .slice A e.d.length c] 24)) w.heap.size e A c :=
  ⟨EB.new w e A _ c, h.below (below_alloc w _)⟩
theorem evR_short {s : List UInt8} (hs : s.length ≤ 16384) : (∃ x, evR s = .ok x ∧ x.ok = true ∧ x.tx = s) ∨ evR s = .error 3 := by
  cases h : evP s with
  | none => exact .inr (evR_none hs h)
  | some x => exact .inl ⟨x, evR_some hs h, (evP_some s x h).1, (evP_some s x h).2⟩
theorem evR_back {e : Ev} (h : e.ok = true) : evR e.tx = .ok e := evR_some (ws_ok e h).2.2.2.2 (evP_tx e h)
theorem ok_fit (e : Ev) (h : e.ok = true) : e.fit 9223372036854775000 ∧ e.d.length ≤ 8 := by
  have hl := (ws_ok e h).2.1
  refine ⟨⟨?_, ?_, ?_, fun f hf => ?_⟩, (ev_head e h).2.2.2.2⟩
  · have := hl e.c.data.toList (by unfold Ev.ws; simp); rw [len_byte] at this; omega
  · have := hl e.a.data.toList (by unfold Ev.ws; simp); rw [len_byte] at this; omega
  · have := hl e.r.data.toList (by unfold Ev.ws; simp); rw [len_byte] at this; omega
  · have h1 := hl f.tx (by unfold Ev.ws; simp; exact .inr (.inr (.inr (.inr (.inr ⟨f, hf, rfl⟩)))))
    have h2 := val_small f.v (ev_names e h f hf).2
    have h3 : f.nm.data.toList.length ≤ f.tx.length := by unfold Fd.tx; simp
    rw [len_byte] at h3
    omega
theorem ev0_no : ev0.ok = false := by decide
theorem fdin_nil (w : World) (A : Option Addr) : FdIn w A ev0.d := fun i hi => by simp [ev0] at hi
set_option maxHeartbeats 3200000 in
set_option maxRecDepth 100000 in
theorem eventTexts_walk (e : Ev) (A : Option Addr) (n c : Nat) (s : ByteArray) (w : World) (hP : PW w) (h : FdIn w A e.d) (hn : e.d.length = n) (hc : n ≤ c) (hm : c ≤ 9223372036854775807) (hf : e.fit 9223372036854775807) (hs : s.size ≤ 9223372036854775807) :
    Calls Tryz.prog 3 #[.agg #[.string e.c, .string e.a, .string e.r, .int .i64 e.life, .int .i64 e.time, .slice A n c], .string s] w fun x w' => x = .returned (.bool true) ∧ Below w.heap.size w w' := by
  have HG := Lib.hid (fun w h => great_any e A n c w h hn (by omega) hf)
  have HS := Lib.hid (TxS.new w e A n c hP h)
  have HFit := Lib.hid (fun h => fit_of (e := e) h)
  have HN := Lib.hid hn
  clear hP h hn hf
  go_enter Tryz.func3, Tryz.ntmps3
  go_wp2_with fail
  generalize w.alloc (.cells #[.string e.c, .string e.a, .string e.r, .int .i64 e.life, .int .i64 e.time, .slice A n c] 24) = w0 at *
  ((with_reducible refine (awake_any _ HS.out.pw).mono ?_); rintro x w1 ⟨rfl, hb1⟩)
  replace HS := Lib.hid (HS.out.below hb1)
  clear hb1
  obtain ⟨x0, x1, x2, x3, x4, x5⟩ := HS.out.eb.cells
  cases hg : grE e with
  | true =>
    rw [hg] at HG
    clear hg
    go_wp2_with fail
    ((with_reducible refine (HG.out _ HS.out.fd).mono ?_); rintro x w2 ⟨rfl, hb2⟩)
    go_wp2_with fail
    go_ret
    exact ⟨rfl, below_then HS.out.bel hb2⟩
  | false =>
    obtain ⟨hfit, hl⟩ := HFit.out hg
    have HFIT := Lib.hid hfit
    have HL20 := Lib.hid hl
    rw [hg] at HG
    clear hg hfit HFit
    by_cases hs1 : 1000 < s.size
    · have q : 1000 < (s.size : Int) := by omega
      clear hs1
      go_wp2_with fail
      ((with_reducible refine (HG.out _ HS.out.fd).mono ?_); rintro x w2 ⟨rfl, hb2⟩)
      go_wp2_with fail
      go_ret
      exact ⟨rfl, below_then HS.out.bel hb2⟩
    · have q : (s.size : Int) ≤ 1000 := by omega
      have hsl : s.data.toList.length ≤ 16384 := by rw [len_byte]; omega
      have HR := Lib.hid (evR_short hsl)
      have HT := Lib.hid (fun w hb h => etext_any e A n c w hb h HN.out (by have := HN.out; omega) HFIT.out)
      have HU := Lib.hid (fun w h => revtx_any e A n c w h HN.out (by have := HN.out; omega) HFIT.out)
      have HX := Lib.hid (fun w h => eparse_any s w h)
      have HY := Lib.hid (fun w => rparse_any s w (by omega))
      clear hs1 hsl hl
      go_wp2_with fail
      ((with_reducible refine (HG.out _ HS.out.fd).mono ?_); rintro x w2 ⟨rfl, hb2⟩)
      replace HS := Lib.hid (HS.out.below hb2)
      clear hb2 x0 x1 x2 x3 x4 x5 HG
      obtain ⟨x0, x1, x2, x3, x4, x5⟩ := HS.out.eb.cells
      rcases HR.out with ⟨xe, hR, hxo, hxt⟩ | hR
      · rw [hR] at HX HY
        obtain ⟨hxf, hxl⟩ := ok_fit xe hxo
        have HXL := Lib.hid (show xe.d.length ≤ 1000000 by omega)
        have HXF := Lib.hid hxf
        have HXO := Lib.hid hxo
        have HXT := Lib.hid hxt
        clear hR HR hxf hxl hxo hxt
        cases hok : e.ok with
        | false =>
          rw [etRet_no hok] at HT HU
          clear hok
          go_wp2_with fail
          ((with_reducible refine (HT.out _ HS.out.pw.tb HS.out.fd).mono ?_); rintro x w3 ⟨rfl, hb3⟩)
          replace HS := Lib.hid (HS.out.below hb3)
          clear hb3 x0 x1 x2 x3 x4 x5 HT
          obtain ⟨x0, x1, x2, x3, x4, x5⟩ := HS.out.eb.cells
          go_wp2_with fail
          ((with_reducible refine (HU.out _ HS.out.fd).mono ?_); rintro x w4 ⟨rfl, hb4⟩)
          replace HS := Lib.hid (HS.out.below hb4)
          clear hb4 x0 x1 x2 x3 x4 x5 HU
          go_wp2_with fail
          ((with_reducible refine (HX.out _ HS.out.pw).mono ?_); rintro x w5 ⟨A5, c5, hx, hf5, hb5⟩)
          have hx' : x = .returned (.tuple #[.agg #[.string xe.c, .string xe.a, .string xe.r, .int .i64 xe.life, .int .i64 xe.time, .slice A5 xe.d.length c5], .int .i64 0]) := hx
          clear hx; subst hx'
          replace HS := Lib.hid ((HS.out.below hb5).below (below_alloc w5 (.cells #[.string xe.c, .string xe.a, .string xe.r, .int .i64 xe.life, .int .i64 xe.time, .slice A5 xe.d.length c5] 24)))
          have HV5 := Lib.hid (show EvB (w5.alloc (.cells #[.string xe.c, .string xe.a, .string xe.r, .int .i64 xe.life, .int .i64 xe.time, .slice A5 xe.d.length c5] 24)) w5.heap.size xe A5 c5 from EvB.new w5 xe A5 c5 hf5)
          clear hb5 hf5
          go_wp2_with fail
          ((with_reducible refine (HY.out _).mono ?_); rintro x w6 ⟨A6, c6, hx, hf6, hb6⟩)
          have hx' : x = .returned (.tuple #[.agg #[.string xe.c, .string xe.a, .string xe.r, .int .i64 xe.life, .int .i64 xe.time, .slice A6 xe.d.length c6], .int .i64 0]) := hx
          clear hx; subst hx'
          replace HS := Lib.hid ((HS.out.below hb6).below (below_alloc w6 (.cells #[.string xe.c, .string xe.a, .string xe.r, .int .i64 xe.life, .int .i64 xe.time, .slice A6 xe.d.length c6] 24)))
          have HV6' := Lib.hid (HV5.out.below hb6)
          have hz6 := HV6'.out.1.lt
          obtain ⟨y0, y1, y2, y3, y4, y5⟩ := HV6'.out.1.cells
          skip
          replace HV5 := Lib.hid (HV6'.out.below (below_alloc w6 (.cells #[.string xe.c, .string xe.a, .string xe.r, .int .i64 xe.life, .int .i64 xe.time, .slice A6 xe.d.length c6] 24)))
          have HV6 := Lib.hid (show EvB (w6.alloc (.cells #[.string xe.c, .string xe.a, .string xe.r, .int .i64 xe.life, .int .i64 xe.time, .slice A6 xe.d.length c6] 24)) w6.heap.size xe A6 c6 from EvB.new w6 xe A6 c6 hf6)
          have hsm := rsame_any xe xe A5 A6 xe.d.length xe.d.length c5 c6 (w6.alloc (.cells #[.string xe.c, .string xe.a, .string xe.r, .int .i64 xe.life, .int .i64 xe.time, .slice A6 xe.d.length c6] 24)) HV5.out.2 HV6.out.2 rfl rfl HXL.out HXL.out
          rw [sameE_refl] at hsm
          have HSM := Lib.hid (show Calls Tryz.prog 13 #[.agg #[.string xe.c, .string xe.a, .string xe.r, .int .i64 xe.life, .int .i64 xe.time, .slice A5 xe.d.length c5], .agg #[.string xe.c, .string xe.a, .string xe.r, .int .i64 xe.life, .int .i64 xe.time, .slice A6 xe.d.length c6]] (w6.alloc (.cells #[.string xe.c, .string xe.a, .string xe.r, .int .i64 xe.life, .int .i64 xe.time, .slice A6 xe.d.length c6] 24)) (fun x w' => x = .returned (.bool true) ∧ Below (w6.alloc (.cells #[.string xe.c, .string xe.a, .string xe.r, .int .i64 xe.life, .int .i64 xe.time, .slice A6 xe.d.length c6] 24)).heap.size (w6.alloc (.cells #[.string xe.c, .string xe.a, .string xe.r, .int .i64 xe.life, .int .i64 xe.time, .slice A6 xe.d.length c6] 24)) w') from hsm)
          clear hb6 HV6' hsm hf6
          go_wp2_with fail
          ((with_reducible refine HSM.out.mono ?_); rintro x w7 ⟨rfl, hb7⟩)
          replace HS := Lib.hid (HS.out.below hb7)
          replace HV5 := Lib.hid (HV5.out.below hb7)
          clear hb7 HSM HV6 y0 y1 y2 y3 y4 y5 hz6
          obtain ⟨y0, y1, y2, y3, y4, y5⟩ := HV5.out.1.cells
          skip
          have HTT := Lib.hid (fun w hb h => etext_any xe A5 xe.d.length c5 w hb h rfl HXL.out HXF.out)
          have HVV := Lib.hid (fun w h => evalid_any xe A5 xe.d.length c5 w h rfl HXL.out HXF.out)
          rw [etRet_yes HXO.out] at HTT
          rw [HXO.out] at HVV
          rw [HXT.out, show (⟨s.data.toList.toArray⟩ : ByteArray) = s from rfl] at HTT
          go_wp2_with fail
          ((with_reducible refine (HTT.out _ HS.out.pw.tb HV5.out.fd).mono ?_); rintro x w10 ⟨rfl, hb10⟩)
          replace HS := Lib.hid (HS.out.below hb10)
          replace HV5 := Lib.hid (HV5.out.below hb10)
          clear hb10 HTT y0 y1 y2 y3 y4 y5
          obtain ⟨y0, y1, y2, y3, y4, y5⟩ := HV5.out.1.cells
          go_wp2_with fail
          ((with_reducible refine (HVV.out _ HV5.out.fd).mono ?_); rintro x w11 ⟨rfl, hb11⟩)
          go_wp2_with fail
          go_ret
          exact ⟨rfl, below_then HS.out.bel hb11⟩
        | true =>
          rw [etRet_yes hok] at HT HU
          have HBK := Lib.hid (evR_back hok)
          obtain ⟨t, ht⟩ : ∃ t : ByteArray, t = ⟨e.tx.toArray⟩ := ⟨_, rfl⟩
          have HTX := Lib.hid (show t.data.toList = e.tx by rw [ht])
          rw [← ht] at HT HU
          have HZ := Lib.hid (fun w h => eparse_any t w h)
          rw [HTX.out, HBK.out] at HZ
          clear ht hok
          go_wp2_with fail
          ((with_reducible refine (HT.out _ HS.out.pw.tb HS.out.fd).mono ?_); rintro x w3 ⟨rfl, hb3⟩)
          replace HS := Lib.hid (HS.out.below hb3)
          clear hb3 x0 x1 x2 x3 x4 x5 HT
          obtain ⟨x0, x1, x2, x3, x4, x5⟩ := HS.out.eb.cells
          go_wp2_with fail
          ((with_reducible refine (HU.out _ HS.out.fd).mono ?_); rintro x w4 ⟨rfl, hb4⟩)
          replace HS := Lib.hid (HS.out.below hb4)
          clear hb4 x0 x1 x2 x3 x4 x5 HU
          go_wp2_with fail
          ((with_reducible refine (HX.out _ HS.out.pw).mono ?_); rintro x w5 ⟨A5, c5, hx, hf5, hb5⟩)
          have hx' : x = .returned (.tuple #[.agg #[.string xe.c, .string xe.a, .string xe.r, .int .i64 xe.life, .int .i64 xe.time, .slice A5 xe.d.length c5], .int .i64 0]) := hx
          clear hx; subst hx'
          replace HS := Lib.hid ((HS.out.below hb5).below (below_alloc w5 (.cells #[.string xe.c, .string xe.a, .string xe.r, .int .i64 xe.life, .int .i64 xe.time, .slice A5 xe.d.length c5] 24)))
          have HV5 := Lib.hid (show EvB (w5.alloc (.cells #[.string xe.c, .string xe.a, .string xe.r, .int .i64 xe.life, .int .i64 xe.time, .slice A5 xe.d.length c5] 24)) w5.heap.size xe A5 c5 from EvB.new w5 xe A5 c5 hf5)
          clear hb5 hf5
          go_wp2_with fail
          ((with_reducible refine (HY.out _).mono ?_); rintro x w6 ⟨A6, c6, hx, hf6, hb6⟩)
          have hx' : x = .returned (.tuple #[.agg #[.string xe.c, .string xe.a, .string xe.r, .int .i64 xe.life, .int .i64 xe.time, .slice A6 xe.d.length c6], .int .i64 0]) := hx
          clear hx; subst hx'
          replace HS := Lib.hid ((HS.out.below hb6).below (below_alloc w6 (.cells #[.string xe.c, .string xe.a, .string xe.r, .int .i64 xe.life, .int .i64 xe.time, .slice A6 xe.d.length c6] 24)))
          have HV6' := Lib.hid (HV5.out.below hb6)
          have hz6 := HV6'.out.1.lt
          obtain ⟨y0, y1, y2, y3, y4, y5⟩ := HV6'.out.1.cells
          skip
          replace HV5 := Lib.hid (HV6'.out.below (below_alloc w6 (.cells #[.string xe.c, .string xe.a, .string xe.r, .int .i64 xe.life, .int .i64 xe.time, .slice A6 xe.d.length c6] 24)))
          have HV6 := Lib.hid (show EvB (w6.alloc (.cells #[.string xe.c, .string xe.a, .string xe.r, .int .i64 xe.life, .int .i64 xe.time, .slice A6 xe.d.length c6] 24)) w6.heap.size xe A6 c6 from EvB.new w6 xe A6 c6 hf6)
          have hsm := rsame_any xe xe A5 A6 xe.d.length xe.d.length c5 c6 (w6.alloc (.cells #[.string xe.c, .string xe.a, .string xe.r, .int .i64 xe.life, .int .i64 xe.time, .slice A6 xe.d.length c6] 24)) HV5.out.2 HV6.out.2 rfl rfl HXL.out HXL.out
          rw [sameE_refl] at hsm
          have HSM := Lib.hid (show Calls Tryz.prog 13 #[.agg #[.string xe.c, .string xe.a, .string xe.r, .int .i64 xe.life, .int .i64 xe.time, .slice A5 xe.d.length c5], .agg #[.string xe.c, .string xe.a, .string xe.r, .int .i64 xe.life, .int .i64 xe.time, .slice A6 xe.d.length c6]] (w6.alloc (.cells #[.string xe.c, .string xe.a, .string xe.r, .int .i64 xe.life, .int .i64 xe.time, .slice A6 xe.d.length c6] 24)) (fun x w' => x = .returned (.bool true) ∧ Below (w6.alloc (.cells #[.string xe.c, .string xe.a, .string xe.r, .int .i64 xe.life, .int .i64 xe.time, .slice A6 xe.d.length c6] 24)).heap.size (w6.alloc (.cells #[.string xe.c, .string xe.a, .string xe.r, .int .i64 xe.life, .int .i64 xe.time, .slice A6 xe.d.length c6] 24)) w') from hsm)
          clear hb6 HV6' hsm hf6
          go_wp2_with fail
          ((with_reducible refine HSM.out.mono ?_); rintro x w7 ⟨rfl, hb7⟩)
          replace HS := Lib.hid (HS.out.below hb7)
          replace HV5 := Lib.hid (HV5.out.below hb7)
          clear hb7 HSM HV6 y0 y1 y2 y3 y4 y5 hz6
          go_wp2_with fail
          ((with_reducible refine (HZ.out _ HS.out.pw).mono ?_); rintro x w8 ⟨A8, c8, hx, hf8, hb8⟩)
          have hx' : x = .returned (.tuple #[.agg #[.string e.c, .string e.a, .string e.r, .int .i64 e.life, .int .i64 e.time, .slice A8 e.d.length c8], .int .i64 0]) := hx
          clear hx; subst hx'
          have HS8 := Lib.hid (HS.out.below hb8)
          obtain ⟨x0, x1, x2, x3, x4, x5⟩ := HS8.out.eb.cells
          have hz8 := HS8.out.eb.lt
          replace HS := Lib.hid (HS8.out.below (below_alloc w8 (.cells #[.string e.c, .string e.a, .string e.r, .int .i64 e.life, .int .i64 e.time, .slice A8 e.d.length c8] 24)))
          replace HV5 := Lib.hid ((HV5.out.below hb8).below (below_alloc w8 (.cells #[.string e.c, .string e.a, .string e.r, .int .i64 e.life, .int .i64 e.time, .slice A8 e.d.length c8] 24)))
          have HV8 := Lib.hid (EvB.new w8 e A8 c8 hf8)
          have hsm := rsame_any e e A8 A e.d.length n c8 c (w8.alloc (.cells #[.string e.c, .string e.a, .string e.r, .int .i64 e.life, .int .i64 e.time, .slice A8 e.d.length c8] 24)) HV8.out.2 HS.out.fd rfl HN.out (by have := HL20.out; omega) (by have := HL20.out; have := HN.out; omega)
          rw [sameE_refl] at hsm
          have HSM := Lib.hid hsm
          clear hb8 hf8 HS8 hsm
          go_wp2_with fail
          ((with_reducible refine HSM.out.mono ?_); rintro x w9 ⟨rfl, hb9⟩)
          replace HS := Lib.hid (HS.out.below hb9)
          replace HV5 := Lib.hid (HV5.out.below hb9)
          clear hb9 HSM HV8 x0 x1 x2 x3 x4 x5 hz8
          obtain ⟨y0, y1, y2, y3, y4, y5⟩ := HV5.out.1.cells
          skip
          have HTT := Lib.hid (fun w hb h => etext_any xe A5 xe.d.length c5 w hb h rfl HXL.out HXF.out)
          have HVV := Lib.hid (fun w h => evalid_any xe A5 xe.d.length c5 w h rfl HXL.out HXF.out)
          rw [etRet_yes HXO.out] at HTT
          rw [HXO.out] at HVV
          rw [HXT.out, show (⟨s.data.toList.toArray⟩ : ByteArray) = s from rfl] at HTT
          go_wp2_with fail
          ((with_reducible refine (HTT.out _ HS.out.pw.tb HV5.out.fd).mono ?_); rintro x w10 ⟨rfl, hb10⟩)
          replace HS := Lib.hid (HS.out.below hb10)
          replace HV5 := Lib.hid (HV5.out.below hb10)
          clear hb10 HTT y0 y1 y2 y3 y4 y5
          obtain ⟨y0, y1, y2, y3, y4, y5⟩ := HV5.out.1.cells
          go_wp2_with fail
          ((with_reducible refine (HVV.out _ HV5.out.fd).mono ?_); rintro x w11 ⟨rfl, hb11⟩)
          go_wp2_with fail
          go_ret
          exact ⟨rfl, below_then HS.out.bel hb11⟩
      · rw [hR] at HX HY
        have HXL := Lib.hid (show ev0.d.length ≤ 1000000 by decide)
        clear hR HR
        cases hok : e.ok with
        | false =>
          rw [etRet_no hok] at HT HU
          clear hok
          go_wp2_with fail
          ((with_reducible refine (HT.out _ HS.out.pw.tb HS.out.fd).mono ?_); rintro x w3 ⟨rfl, hb3⟩)
          replace HS := Lib.hid (HS.out.below hb3)
          clear hb3 x0 x1 x2 x3 x4 x5 HT
          obtain ⟨x0, x1, x2, x3, x4, x5⟩ := HS.out.eb.cells
          go_wp2_with fail
          ((with_reducible refine (HU.out _ HS.out.fd).mono ?_); rintro x w4 ⟨rfl, hb4⟩)
          replace HS := Lib.hid (HS.out.below hb4)
          clear hb4 x0 x1 x2 x3 x4 x5 HU
          go_wp2_with fail
          ((with_reducible refine (HX.out _ HS.out.pw).mono ?_); rintro x w5 ⟨hx, hb5⟩)
          have hx' : x = .returned (.tuple #[.agg #[.string ⟨#[]⟩, .string ⟨#[]⟩, .string ⟨#[]⟩, .int .i64 0, .int .i64 0, .slice none 0 0], .int .i64 3]) := hx
          clear hx; subst hx'
          replace HS := Lib.hid ((HS.out.below hb5).below (below_alloc w5 (.cells #[.string ⟨#[]⟩, .string ⟨#[]⟩, .string ⟨#[]⟩, .int .i64 0, .int .i64 0, .slice none 0 0] 24)))
          have HV5 := Lib.hid (show EvB (w5.alloc (.cells #[.string ⟨#[]⟩, .string ⟨#[]⟩, .string ⟨#[]⟩, .int .i64 0, .int .i64 0, .slice none 0 0] 24)) w5.heap.size ev0 none 0 from EvB.new w5 ev0 none 0 (fdin_nil w5 none))
          clear hb5
          go_wp2_with fail
          ((with_reducible refine (HY.out _).mono ?_); rintro x w6 ⟨hx, hb6⟩)
          have hx' : x = .returned (.tuple #[.agg #[.string ⟨#[]⟩, .string ⟨#[]⟩, .string ⟨#[]⟩, .int .i64 0, .int .i64 0, .slice none 0 0], .int .i64 3]) := hx
          clear hx; subst hx'
          replace HS := Lib.hid ((HS.out.below hb6).below (below_alloc w6 (.cells #[.string ⟨#[]⟩, .string ⟨#[]⟩, .string ⟨#[]⟩, .int .i64 0, .int .i64 0, .slice none 0 0] 24)))
          have HV6' := Lib.hid (HV5.out.below hb6)
          have hz6 := HV6'.out.1.lt
          obtain ⟨y0, y1, y2, y3, y4, y5⟩ := HV6'.out.1.cells
          simp only [ev0, List.length_nil] at y0 y1 y2 y3 y4 y5
          replace HV5 := Lib.hid (HV6'.out.below (below_alloc w6 (.cells #[.string ⟨#[]⟩, .string ⟨#[]⟩, .string ⟨#[]⟩, .int .i64 0, .int .i64 0, .slice none 0 0] 24)))
          have HV6 := Lib.hid (show EvB (w6.alloc (.cells #[.string ⟨#[]⟩, .string ⟨#[]⟩, .string ⟨#[]⟩, .int .i64 0, .int .i64 0, .slice none 0 0] 24)) w6.heap.size ev0 none 0 from EvB.new w6 ev0 none 0 (fdin_nil w6 none))
          have hsm := rsame_any ev0 ev0 none none ev0.d.length ev0.d.length 0 0 (w6.alloc (.cells #[.string ⟨#[]⟩, .string ⟨#[]⟩, .string ⟨#[]⟩, .int .i64 0, .int .i64 0, .slice none 0 0] 24)) HV5.out.2 HV6.out.2 rfl rfl HXL.out HXL.out
          rw [sameE_refl] at hsm
          have HSM := Lib.hid (show Calls Tryz.prog 13 #[.agg #[.string ⟨#[]⟩, .string ⟨#[]⟩, .string ⟨#[]⟩, .int .i64 0, .int .i64 0, .slice none 0 0], .agg #[.string ⟨#[]⟩, .string ⟨#[]⟩, .string ⟨#[]⟩, .int .i64 0, .int .i64 0, .slice none 0 0]] (w6.alloc (.cells #[.string ⟨#[]⟩, .string ⟨#[]⟩, .string ⟨#[]⟩, .int .i64 0, .int .i64 0, .slice none 0 0] 24)) (fun x w' => x = .returned (.bool true) ∧ Below (w6.alloc (.cells #[.string ⟨#[]⟩, .string ⟨#[]⟩, .string ⟨#[]⟩, .int .i64 0, .int .i64 0, .slice none 0 0] 24)).heap.size (w6.alloc (.cells #[.string ⟨#[]⟩, .string ⟨#[]⟩, .string ⟨#[]⟩, .int .i64 0, .int .i64 0, .slice none 0 0] 24)) w') from hsm)
          clear hb6 HV6' hsm
          go_wp2_with fail
          ((with_reducible refine HSM.out.mono ?_); rintro x w7 ⟨rfl, hb7⟩)
          replace HS := Lib.hid (HS.out.below hb7)
          replace HV5 := Lib.hid (HV5.out.below hb7)
          clear hb7 HSM HV6 y0 y1 y2 y3 y4 y5 hz6
          obtain ⟨y0, y1, y2, y3, y4, y5⟩ := HV5.out.1.cells
          simp only [ev0, List.length_nil] at y0 y1 y2 y3 y4 y5
          have hsm := rsame_any ev0 ev0 none none 0 0 0 0 w7 HV5.out.fd (fdin_nil w7 none) rfl rfl (by omega) (by omega)
          rw [sameE_refl] at hsm
          have HSM := Lib.hid (show Calls Tryz.prog 13 #[.agg #[.string ⟨#[]⟩, .string ⟨#[]⟩, .string ⟨#[]⟩, .int .i64 0, .int .i64 0, .slice none 0 0], .agg #[.string ⟨#[]⟩, .string ⟨#[]⟩, .string ⟨#[]⟩, .int .i64 0, .int .i64 0, .slice none 0 0]] w7 (fun x w' => x = .returned (.bool true) ∧ Below w7.heap.size w7 w') from hsm)
          clear hsm
          go_wp2_with fail
          ((with_reducible refine HSM.out.mono ?_); rintro x w11 ⟨rfl, hb11⟩)
          go_wp2_with fail
          go_ret
          exact ⟨rfl, below_then HS.out.bel hb11⟩
        | true =>
          rw [etRet_yes hok] at HT HU
          have HBK := Lib.hid (evR_back hok)
          obtain ⟨t, ht⟩ : ∃ t : ByteArray, t = ⟨e.tx.toArray⟩ := ⟨_, rfl⟩
          have HTX := Lib.hid (show t.data.toList = e.tx by rw [ht])
          rw [← ht] at HT HU
          have HZ := Lib.hid (fun w h => eparse_any t w h)
          rw [HTX.out, HBK.out] at HZ
          clear ht hok
          go_wp2_with fail
          ((with_reducible refine (HT.out _ HS.out.pw.tb HS.out.fd).mono ?_); rintro x w3 ⟨rfl, hb3⟩)
          replace HS := Lib.hid (HS.out.below hb3)
          clear hb3 x0 x1 x2 x3 x4 x5 HT
          obtain ⟨x0, x1, x2, x3, x4, x5⟩ := HS.out.eb.cells
          go_wp2_with fail
          ((with_reducible refine (HU.out _ HS.out.fd).mono ?_); rintro x w4 ⟨rfl, hb4⟩)
          replace HS := Lib.hid (HS.out.below hb4)
          clear hb4 x0 x1 x2 x3 x4 x5 HU
          go_wp2_with fail
          ((with_reducible refine (HX.out _ HS.out.pw).mono ?_); rintro x w5 ⟨hx, hb5⟩)
          have hx' : x = .returned (.tuple #[.agg #[.string ⟨#[]⟩, .string ⟨#[]⟩, .string ⟨#[]⟩, .int .i64 0, .int .i64 0, .slice none 0 0], .int .i64 3]) := hx
          clear hx; subst hx'
          replace HS := Lib.hid ((HS.out.below hb5).below (below_alloc w5 (.cells #[.string ⟨#[]⟩, .string ⟨#[]⟩, .string ⟨#[]⟩, .int .i64 0, .int .i64 0, .slice none 0 0] 24)))
          have HV5 := Lib.hid (show EvB (w5.alloc (.cells #[.string ⟨#[]⟩, .string ⟨#[]⟩, .string ⟨#[]⟩, .int .i64 0, .int .i64 0, .slice none 0 0] 24)) w5.heap.size ev0 none 0 from EvB.new w5 ev0 none 0 (fdin_nil w5 none))
          clear hb5
          go_wp2_with fail
          ((with_reducible refine (HY.out _).mono ?_); rintro x w6 ⟨hx, hb6⟩)
          have hx' : x = .returned (.tuple #[.agg #[.string ⟨#[]⟩, .string ⟨#[]⟩, .string ⟨#[]⟩, .int .i64 0, .int .i64 0, .slice none 0 0], .int .i64 3]) := hx
          clear hx; subst hx'
          replace HS := Lib.hid ((HS.out.below hb6).below (below_alloc w6 (.cells #[.string ⟨#[]⟩, .string ⟨#[]⟩, .string ⟨#[]⟩, .int .i64 0, .int .i64 0, .slice none 0 0] 24)))
          have HV6' := Lib.hid (HV5.out.below hb6)
          have hz6 := HV6'.out.1.lt
          obtain ⟨y0, y1, y2, y3, y4, y5⟩ := HV6'.out.1.cells
          simp only [ev0, List.length_nil] at y0 y1 y2 y3 y4 y5
          replace HV5 := Lib.hid (HV6'.out.below (below_alloc w6 (.cells #[.string ⟨#[]⟩, .string ⟨#[]⟩, .string ⟨#[]⟩, .int .i64 0, .int .i64 0, .slice none 0 0] 24)))
          have HV6 := Lib.hid (show EvB (w6.alloc (.cells #[.string ⟨#[]⟩, .string ⟨#[]⟩, .string ⟨#[]⟩, .int .i64 0, .int .i64 0, .slice none 0 0] 24)) w6.heap.size ev0 none 0 from EvB.new w6 ev0 none 0 (fdin_nil w6 none))
          have hsm := rsame_any ev0 ev0 none none ev0.d.length ev0.d.length 0 0 (w6.alloc (.cells #[.string ⟨#[]⟩, .string ⟨#[]⟩, .string ⟨#[]⟩, .int .i64 0, .int .i64 0, .slice none 0 0] 24)) HV5.out.2 HV6.out.2 rfl rfl HXL.out HXL.out
          rw [sameE_refl] at hsm
          have HSM := Lib.hid (show Calls Tryz.prog 13 #[.agg #[.string ⟨#[]⟩, .string ⟨#[]⟩, .string ⟨#[]⟩, .int .i64 0, .int .i64 0, .slice none 0 0], .agg #[.string ⟨#[]⟩, .string ⟨#[]⟩, .string ⟨#[]⟩, .int .i64 0, .int .i64 0, .slice none 0 0]] (w6.alloc (.cells #[.string ⟨#[]⟩, .string ⟨#[]⟩, .string ⟨#[]⟩, .int .i64 0, .int .i64 0, .slice none 0 0] 24)) (fun x w' => x = .returned (.bool true) ∧ Below (w6.alloc (.cells #[.string ⟨#[]⟩, .string ⟨#[]⟩, .string ⟨#[]⟩, .int .i64 0, .int .i64 0, .slice none 0 0] 24)).heap.size (w6.alloc (.cells #[.string ⟨#[]⟩, .string ⟨#[]⟩, .string ⟨#[]⟩, .int .i64 0, .int .i64 0, .slice none 0 0] 24)) w') from hsm)
          clear hb6 HV6' hsm
          go_wp2_with fail
          ((with_reducible refine HSM.out.mono ?_); rintro x w7 ⟨rfl, hb7⟩)
          replace HS := Lib.hid (HS.out.below hb7)
          replace HV5 := Lib.hid (HV5.out.below hb7)
          clear hb7 HSM HV6 y0 y1 y2 y3 y4 y5 hz6
          go_wp2_with fail
          ((with_reducible refine (HZ.out _ HS.out.pw).mono ?_); rintro x w8 ⟨A8, c8, hx, hf8, hb8⟩)
          have hx' : x = .returned (.tuple #[.agg #[.string e.c, .string e.a, .string e.r, .int .i64 e.life, .int .i64 e.time, .slice A8 e.d.length c8], .int .i64 0]) := hx
          clear hx; subst hx'
          have HS8 := Lib.hid (HS.out.below hb8)
          obtain ⟨x0, x1, x2, x3, x4, x5⟩ := HS8.out.eb.cells
          have hz8 := HS8.out.eb.lt
          replace HS := Lib.hid (HS8.out.below (below_alloc w8 (.cells #[.string e.c, .string e.a, .string e.r, .int .i64 e.life, .int .i64 e.time, .slice A8 e.d.length c8] 24)))
          replace HV5 := Lib.hid ((HV5.out.below hb8).below (below_alloc w8 (.cells #[.string e.c, .string e.a, .string e.r, .int .i64 e.life, .int .i64 e.time, .slice A8 e.d.length c8] 24)))
          have HV8 := Lib.hid (EvB.new w8 e A8 c8 hf8)
          have hsm := rsame_any e e A8 A e.d.length n c8 c (w8.alloc (.cells #[.string e.c, .string e.a, .string e.r, .int .i64 e.life, .int .i64 e.time, .slice A8 e.d.length c8] 24)) HV8.out.2 HS.out.fd rfl HN.out (by have := HL20.out; omega) (by have := HL20.out; have := HN.out; omega)
          rw [sameE_refl] at hsm
          have HSM := Lib.hid hsm
          clear hb8 hf8 HS8 hsm
          go_wp2_with fail
          ((with_reducible refine HSM.out.mono ?_); rintro x w9 ⟨rfl, hb9⟩)
          replace HS := Lib.hid (HS.out.below hb9)
          replace HV5 := Lib.hid (HV5.out.below hb9)
          clear hb9 HSM HV8 x0 x1 x2 x3 x4 x5 hz8
          obtain ⟨y0, y1, y2, y3, y4, y5⟩ := HV5.out.1.cells
          simp only [ev0, List.length_nil] at y0 y1 y2 y3 y4 y5
          have hsm := rsame_any ev0 ev0 none none 0 0 0 0 w9 HV5.out.fd (fdin_nil w9 none) rfl rfl (by omega) (by omega)
          rw [sameE_refl] at hsm
          have HSM := Lib.hid (show Calls Tryz.prog 13 #[.agg #[.string ⟨#[]⟩, .string ⟨#[]⟩, .string ⟨#[]⟩, .int .i64 0, .int .i64 0, .slice none 0 0], .agg #[.string ⟨#[]⟩, .string ⟨#[]⟩, .string ⟨#[]⟩, .int .i64 0, .int .i64 0, .slice none 0 0]] w9 (fun x w' => x = .returned (.bool true) ∧ Below w9.heap.size w9 w') from hsm)
          clear hsm
          go_wp2_with fail
          ((with_reducible refine HSM.out.mono ?_); rintro x w11 ⟨rfl, hb11⟩)
          go_wp2_with fail
          go_ret
          exact ⟨rfl, below_then HS.out.bel hb11⟩
end Go.Proofs.YtbbdgncjpbfooaaGreatDoor
