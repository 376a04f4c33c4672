/- EventFields: what a call returns. -/
import Derived.Test.YtbbdgncjpbfooaaGreatDoorWf
import Derived.Test.YtbbdgncjpbfooaaGreatDoorVd
import Derived.Test.YtbbdgncjpbfooaaGreatDoorVe
import Derived.Test.YtbbdgncjpbfooaaGreatDoorEu
namespace Go.Proofs.YtbbdgncjpbfooaaGreatDoor
open Go.RowKit

/-- while EventFields runs -/
def FlS (w wr : World) (e : Ev) (A : Option Addr) (n c : Nat) (v : Vl) : Prop := EB wr w.heap.size e A n c ∧ VB wr (w.heap.size + 1) v ∧ FdIn wr A e.d ∧ PW wr ∧ Below w.heap.size w wr
section
variable {w wr w' : World} {e : Ev} {A : Option Addr} {n c : Nat} {v : Vl}
theorem FlS.eb (h : FlS w wr e A n c v) : EB wr w.heap.size e A n c := h.1
theorem FlS.vb (h : FlS w wr e A n c v) : VB wr (w.heap.size + 1) v := h.2.1
theorem FlS.fd (h : FlS w wr e A n c v) : FdIn wr A e.d := h.2.2.1
theorem FlS.pw (h : FlS w wr e A n c v) : PW wr := h.2.2.2.1
theorem FlS.bel (h : FlS w wr e A n c v) : Below w.heap.size w wr := h.2.2.2.2
theorem FlS.below (h : FlS w wr e A n c v) (hb : Below wr.heap.size wr w') : FlS w w' e A n c v := ⟨h.1.below hb, VB.below h.2.1 hb, h.2.2.1.below hb, h.2.2.2.1.below hb, below_then h.2.2.2.2 hb⟩
end
theorem FlS.new (w : World) (e : Ev) (A : Option Addr) (n c : Nat) (v : Vl) (hP : PW w) (h : FdIn w A e.d) :
    FlS w ((w.alloc (.cells #[.string e.c, .string e.a, .string e.r, .int .i64 e.life, .int .i64 e.time, .slice A n c] 24)).alloc (.cells #[.int .i64 v.k, .int .i64 v.n, .string v.s] 39)) e A n c v := by
  have h1 := VB.new (w.alloc (.cells #[.string e.c, .string e.a, .string e.r, .int .i64 e.life, .int .i64 e.time, .slice A n c] 24)) v
  rw [World.size_alloc] at h1
  exact ⟨(EB.new w e A n c).below (below_alloc _ _), h1, h.below (two_boxes w _ _), hP.below (two_boxes w _ _), two_boxes w _ _⟩
/-- an event in a block, with its fields -/
def EvC (wr : World) (b : Nat) (e : Ev) (A : Option Addr) (c : Nat) : Prop := EB wr b e A e.d.length c ∧ FdIn wr A e.d
theorem EvC.eb {wr : World} {b : Nat} {e : Ev} {A : Option Addr} {c : Nat} (h : EvC wr b e A c) : EB wr b e A e.d.length c := h.1
theorem EvC.fd {wr : World} {b : Nat} {e : Ev} {A : Option Addr} {c : Nat} (h : EvC wr b e A c) : FdIn wr A e.d := h.2
theorem EvC.below {wr w' : World} {b : Nat} {e : Ev} {A : Option Addr} {c : Nat} (h : EvC wr b e A c) (hb : Below wr.heap.size wr w') : EvC w' b e A c := ⟨h.1.below hb, h.2.below hb⟩
theorem EvC.new (w : World) (e : Ev) (A : Option Addr) (c : Nat) (h : FdIn w A e.d) : EvC (w.alloc (.cells #[.string e.c, .string e.a, .string e.r, .int .i64 e.life, .int .i64 e.time, .slice A e.d.length c] 24)) w.heap.size e A c :=
  ⟨EB.new w e A _ c, h.below (below_alloc w _)⟩
theorem fdin_ev0 (w : World) (A : Option Addr) : FdIn w A ev0.d := fun i hi => by simp [ev0] at hi
theorem wiR_one (e : Ev) (nm : ByteArray) (v : Vl) : (∃ x, wiR e nm v = .ok x ∧ x.d.length ≤ 8) ∨ ∃ k, wiR e nm v = .error k := by
  unfold wiR
  split
  · split
    · exact .inr ⟨_, rfl⟩
    · exact .inl ⟨_, rfl, by simp only; omega⟩
  · exact .inr ⟨_, rfl⟩
set_option maxHeartbeats 6400000 in
set_option maxRecDepth 100000 in
theorem eventFields_walk (e : Ev) (A : Option Addr) (n c : Nat) (nm : ByteArray) (v : Vl) (w : World) (hP : PW w) (h : FdIn w A e.d) (hn : e.d.length = n) (hc : n ≤ c) (hm : c ≤ 9223372036854775807) (hf : e.fit 9223372036854775807) (hs : nm.size ≤ 9223372036854775807) (hvs : v.s.size ≤ 9223372036854775807) :
    Calls Tryz.prog 5 #[.agg #[.string e.c, .string e.a, .string e.r, .int .i64 e.life, .int .i64 e.time, .slice A n c], .string nm, .agg #[.int .i64 v.k, .int .i64 v.n, .string v.s]] w fun x w' => x = .returned (.bool true) ∧ Below w.heap.size w w' := by
  have HG := Lib.hid (fun w h => great_any e A n c w h hn (by omega) hf)
  have HS := Lib.hid (FlS.new w e A n c v hP h)
  have HFit := Lib.hid (fun h => fit_of (e := e) h)
  have HN := Lib.hid hn
  clear hP h hn hf
  go_enter Tryz.func5, Tryz.ntmps5
  go_wp2_with fail
  generalize ((w.alloc (.cells #[.string e.c, .string e.a, .string e.r, .int .i64 e.life, .int .i64 e.time, .slice A n c] 24)).alloc (.cells #[.int .i64 v.k, .int .i64 v.n, .string v.s] 39)) = w0 at *
  ((with_reducible refine (awake_any _ HS.out.pw).mono ?_); rintro x w1 ⟨rfl, hb1⟩)
  replace HS := Lib.hid (HS.out.below hb1)
  clear hb1
  obtain ⟨x0, x1, x2, x3, x4, x5⟩ := HS.out.eb.cells
  cases hg : grE e with
  | true =>
    rw [hg] at HG
    clear hg
    go_wp2_with fail
    ((with_reducible refine (HG.out _ HS.out.fd).mono ?_); rintro x w2 ⟨rfl, hb2⟩)
    go_wp2_with fail
    go_ret
    exact ⟨rfl, below_then HS.out.bel hb2⟩
  | false =>
    obtain ⟨hfit, hl⟩ := HFit.out hg
    have HFIT := Lib.hid hfit
    have HL20 := Lib.hid hl
    rw [hg] at HG
    clear hg hfit HFit hl
    by_cases hs1 : 100 < nm.size
    · have q : 100 < (nm.size : Int) := by omega
      clear hs1
      go_wp2_with fail
      ((with_reducible refine (HG.out _ HS.out.fd).mono ?_); rintro x w2 ⟨rfl, hb2⟩)
      go_wp2_with fail
      go_ret
      exact ⟨rfl, below_then HS.out.bel hb2⟩
    · have q : (nm.size : Int) ≤ 100 := by omega
      have q' : decide (100 < (nm.size : Int)) = false := by simp; omega
      go_wp2_with fail
      ((with_reducible refine (HG.out _ HS.out.fd).mono ?_); rintro x w2 ⟨rfl, hb2⟩)
      replace HS := Lib.hid (HS.out.below hb2)
      clear hb2 x0 x1 x2 x3 x4 x5 HG
      obtain ⟨x0, x1, x2, x3, x4, x5⟩ := HS.out.eb.cells
      obtain ⟨d0, d1, d2, g0, g1, g2⟩ := HS.out.vb.cells
      by_cases hv3 : 300 < v.s.size
      · have qv : 300 < (v.s.size : Int) := by omega
        clear hv3
        go_wp2_with fail
        go_ret
        exact ⟨rfl, HS.out.bel⟩
      · have qv : (v.s.size : Int) ≤ 300 := by omega
        have qv' : decide (300 < (v.s.size : Int)) = false := by simp; omega
        have HX1 := Lib.hid (fun w h => eget_any e A n c nm w h HN.out (by have := HN.out; have := HL20.out; omega) HFIT.out)
        have HX2 := Lib.hid (fun w h => rget_any e A n c nm w h HN.out (by have := HN.out; have := HL20.out; omega) HFIT.out)
        have HX3 := Lib.hid (fun w h => ewith_any e A n c nm v w h HN.out (by have := HN.out; have := HL20.out; omega) HFIT.out (by omega) (by omega))
        have HX4 := Lib.hid (fun w h => rwith_any e A n c nm v w h HN.out (by have := HN.out; have := HL20.out; omega) HFIT.out (by omega) (by omega))
        generalize gR e nm = gr at HX1 HX2
        obtain ⟨gv, gc⟩ := gr
        unfold gRet at HX1 HX2
        simp only at HX1 HX2
        clear hs1 hv3
        go_wp2_with fail
        ((with_reducible refine (HX1.out _ HS.out.fd).mono ?_); rintro x w3 ⟨rfl, hb3⟩)
        have HSa := Lib.hid (HS.out.below hb3)
        clear hb3 x0 x1 x2 x3 x4 x5 d0 d1 d2 g0 g1 g2 HX1
        obtain ⟨x0, x1, x2, x3, x4, x5⟩ := HSa.out.eb.cells
        have hz3 := HSa.out.eb.lt
        have HSb := Lib.hid (HSa.out.below (below_alloc w3 (.cells #[.int .i64 gv.k, .int .i64 gv.n, .string gv.s] 39)))
        have HVa := Lib.hid (VB.new w3 gv)
        go_wp2_with fail
        ((with_reducible refine (HX2.out _ HSb.out.fd).mono ?_); rintro x w4 ⟨rfl, hb4⟩)
        have HSc := Lib.hid (HSb.out.below hb4)
        have HVb := Lib.hid (VB.below HVa.out hb4)
        clear hb4 x0 x1 x2 x3 x4 x5 HX2 HS HSa HSb HVa
        obtain ⟨x0, x1, x2, x3, x4, x5⟩ := HSc.out.eb.cells
        obtain ⟨d0, d1, d2, g0, g1, g2⟩ := HSc.out.vb.cells
        have hz4 := HSc.out.eb.lt
        have hz4v := VB.lt HSc.out.vb
        have HSd := Lib.hid (HSc.out.below (below_alloc w4 (.cells #[.int .i64 gv.k, .int .i64 gv.n, .string gv.s] 39)))
        have HVc := Lib.hid (VB.below HVb.out (below_alloc w4 (.cells #[.int .i64 gv.k, .int .i64 gv.n, .string gv.s] 39)))
        have HVd := Lib.hid (VB.new w4 gv)
        have hz34 := VB.lt HVb.out
        rcases wiR_one e nm v with ⟨xe, hR, hxl⟩ | ⟨k, hR⟩
        · rw [hR] at HX3 HX4
          clear hR
          have HXL := Lib.hid (show xe.d.length ≤ 1000000 by omega)
          clear hxl
          go_wp2_with fail
          ((with_reducible refine (HX3.out _ HSd.out.fd).mono ?_); rintro x w5 ⟨A5, c5, hx, hf5, hb5⟩)
          have hx' : x = .returned (.tuple #[.agg #[.string xe.c, .string xe.a, .string xe.r, .int .i64 xe.life, .int .i64 xe.time, .slice A5 xe.d.length c5], .int .i64 0]) := hx
          clear hx; subst hx'
          have HSe := Lib.hid (HSd.out.below hb5)
          have HVe := Lib.hid (VB.below HVc.out hb5)
          have HVf := Lib.hid (VB.below HVd.out hb5)
          have HSf := Lib.hid (HSe.out.below (below_alloc w5 (.cells #[.string xe.c, .string xe.a, .string xe.r, .int .i64 xe.life, .int .i64 xe.time, .slice A5 xe.d.length c5] 24)))
          have HVg := Lib.hid (VB.below HVe.out (below_alloc w5 (.cells #[.string xe.c, .string xe.a, .string xe.r, .int .i64 xe.life, .int .i64 xe.time, .slice A5 xe.d.length c5] 24)))
          have HVh := Lib.hid (VB.below HVf.out (below_alloc w5 (.cells #[.string xe.c, .string xe.a, .string xe.r, .int .i64 xe.life, .int .i64 xe.time, .slice A5 xe.d.length c5] 24)))
          have HEa := Lib.hid (show EvC (w5.alloc (.cells #[.string xe.c, .string xe.a, .string xe.r, .int .i64 xe.life, .int .i64 xe.time, .slice A5 xe.d.length c5] 24)) w5.heap.size xe A5 c5 from EvC.new w5 xe A5 c5 hf5)
          clear hb5 x0 x1 x2 x3 x4 x5 d0 d1 d2 g0 g1 g2 HX3 HSc HSd HVb HVc HVd hz4 hz4v hz34
          obtain ⟨x0, x1, x2, x3, x4, x5⟩ := HSe.out.eb.cells
          obtain ⟨d0, d1, d2, g0, g1, g2⟩ := HSe.out.vb.cells
          have hz5 := HSe.out.eb.lt
          have hz5v := VB.lt HSe.out.vb
          go_wp2_with fail
          ((with_reducible refine (HX4.out _ HSf.out.fd).mono ?_); rintro x w6 ⟨A6, c6, hx, hf6, hb6⟩)
          have hx' : x = .returned (.tuple #[.agg #[.string xe.c, .string xe.a, .string xe.r, .int .i64 xe.life, .int .i64 xe.time, .slice A6 xe.d.length c6], .int .i64 0]) := hx
          clear hx; subst hx'
          have HSg := Lib.hid (HSf.out.below hb6)
          have HVi := Lib.hid (VB.below HVg.out hb6)
          have HVj := Lib.hid (VB.below HVh.out hb6)
          have HEb := Lib.hid (HEa.out.below hb6)
          have HEc := Lib.hid (HEb.out.below (below_alloc w6 (.cells #[.string xe.c, .string xe.a, .string xe.r, .int .i64 xe.life, .int .i64 xe.time, .slice A6 xe.d.length c6] 24)))
          have HEd := Lib.hid (show EvC (w6.alloc (.cells #[.string xe.c, .string xe.a, .string xe.r, .int .i64 xe.life, .int .i64 xe.time, .slice A6 xe.d.length c6] 24)) w6.heap.size xe A6 c6 from EvC.new w6 xe A6 c6 hf6)
          have HBl := Lib.hid (below_then HSg.out.bel (below_alloc w6 (.cells #[.string xe.c, .string xe.a, .string xe.r, .int .i64 xe.life, .int .i64 xe.time, .slice A6 xe.d.length c6] 24)))
          have hsm := rsame_any xe xe A5 A6 xe.d.length xe.d.length c5 c6 (w6.alloc (.cells #[.string xe.c, .string xe.a, .string xe.r, .int .i64 xe.life, .int .i64 xe.time, .slice A6 xe.d.length c6] 24)) HEc.out.fd HEd.out.fd rfl rfl HXL.out HXL.out
          rw [sameE_refl] at hsm
          have HSM := Lib.hid (show Calls Tryz.prog 13 #[.agg #[.string xe.c, .string xe.a, .string xe.r, .int .i64 xe.life, .int .i64 xe.time, .slice A5 xe.d.length c5], .agg #[.string xe.c, .string xe.a, .string xe.r, .int .i64 xe.life, .int .i64 xe.time, .slice A6 xe.d.length c6]] (w6.alloc (.cells #[.string xe.c, .string xe.a, .string xe.r, .int .i64 xe.life, .int .i64 xe.time, .slice A6 xe.d.length c6] 24)) (fun x w' => x = .returned (.bool true) ∧ Below (w6.alloc (.cells #[.string xe.c, .string xe.a, .string xe.r, .int .i64 xe.life, .int .i64 xe.time, .slice A6 xe.d.length c6] 24)).heap.size (w6.alloc (.cells #[.string xe.c, .string xe.a, .string xe.r, .int .i64 xe.life, .int .i64 xe.time, .slice A6 xe.d.length c6] 24)) w') from hsm)
          clear hb6 hsm x0 x1 x2 x3 x4 x5 d0 d1 d2 g0 g1 g2 HX4 hz5 hz5v
          obtain ⟨x0, x1, x2, x3, x4, x5⟩ := HEb.out.eb.cells
          obtain ⟨d0, d1, d2, _, _, _⟩ := HVi.out.cells
          obtain ⟨g0, g1, g2, _, _, _⟩ := HVj.out.cells
          have hza := HEb.out.eb.lt
          have hzb := VB.lt HVi.out
          have hzc := VB.lt HVj.out
          go_wp2_with fail
          ((with_reducible refine HSM.out.mono ?_); rintro x w7 ⟨rfl, hb7⟩)
          go_wp2_with fail
          go_ret
          exact ⟨ret_bool (by simp), below_then HBl.out hb7⟩
        · rw [hR] at HX3 HX4
          clear hR
          have HXL := Lib.hid (show ev0.d.length ≤ 1000000 by decide)
          go_wp2_with fail
          ((with_reducible refine (HX3.out _ HSd.out.fd).mono ?_); rintro x w5 ⟨hx, hb5⟩)
          have hx' : x = .returned (.tuple #[.agg #[.string ⟨#[]⟩, .string ⟨#[]⟩, .string ⟨#[]⟩, .int .i64 0, .int .i64 0, .slice none 0 0], .int .i64 (k : Int)]) := hx
          clear hx; subst hx'
          have HSe := Lib.hid (HSd.out.below hb5)
          have HVe := Lib.hid (VB.below HVc.out hb5)
          have HVf := Lib.hid (VB.below HVd.out hb5)
          have HSf := Lib.hid (HSe.out.below (below_alloc w5 (.cells #[.string ⟨#[]⟩, .string ⟨#[]⟩, .string ⟨#[]⟩, .int .i64 0, .int .i64 0, .slice none 0 0] 24)))
          have HVg := Lib.hid (VB.below HVe.out (below_alloc w5 (.cells #[.string ⟨#[]⟩, .string ⟨#[]⟩, .string ⟨#[]⟩, .int .i64 0, .int .i64 0, .slice none 0 0] 24)))
          have HVh := Lib.hid (VB.below HVf.out (below_alloc w5 (.cells #[.string ⟨#[]⟩, .string ⟨#[]⟩, .string ⟨#[]⟩, .int .i64 0, .int .i64 0, .slice none 0 0] 24)))
          have HEa := Lib.hid (show EvC (w5.alloc (.cells #[.string ⟨#[]⟩, .string ⟨#[]⟩, .string ⟨#[]⟩, .int .i64 0, .int .i64 0, .slice none 0 0] 24)) w5.heap.size ev0 none 0 from EvC.new w5 ev0 none 0 (fdin_ev0 w5 none))
          clear hb5 x0 x1 x2 x3 x4 x5 d0 d1 d2 g0 g1 g2 HX3 HSc HSd HVb HVc HVd hz4 hz4v hz34
          obtain ⟨x0, x1, x2, x3, x4, x5⟩ := HSe.out.eb.cells
          obtain ⟨d0, d1, d2, g0, g1, g2⟩ := HSe.out.vb.cells
          have hz5 := HSe.out.eb.lt
          have hz5v := VB.lt HSe.out.vb
          go_wp2_with fail
          ((with_reducible refine (HX4.out _ HSf.out.fd).mono ?_); rintro x w6 ⟨hx, hb6⟩)
          have hx' : x = .returned (.tuple #[.agg #[.string ⟨#[]⟩, .string ⟨#[]⟩, .string ⟨#[]⟩, .int .i64 0, .int .i64 0, .slice none 0 0], .int .i64 (k : Int)]) := hx
          clear hx; subst hx'
          have HSg := Lib.hid (HSf.out.below hb6)
          have HVi := Lib.hid (VB.below HVg.out hb6)
          have HVj := Lib.hid (VB.below HVh.out hb6)
          have HEb := Lib.hid (HEa.out.below hb6)
          have HEc := Lib.hid (HEb.out.below (below_alloc w6 (.cells #[.string ⟨#[]⟩, .string ⟨#[]⟩, .string ⟨#[]⟩, .int .i64 0, .int .i64 0, .slice none 0 0] 24)))
          have HEd := Lib.hid (show EvC (w6.alloc (.cells #[.string ⟨#[]⟩, .string ⟨#[]⟩, .string ⟨#[]⟩, .int .i64 0, .int .i64 0, .slice none 0 0] 24)) w6.heap.size ev0 none 0 from EvC.new w6 ev0 none 0 (fdin_ev0 w6 none))
          have HBl := Lib.hid (below_then HSg.out.bel (below_alloc w6 (.cells #[.string ⟨#[]⟩, .string ⟨#[]⟩, .string ⟨#[]⟩, .int .i64 0, .int .i64 0, .slice none 0 0] 24)))
          have hsm := rsame_any ev0 ev0 none none ev0.d.length ev0.d.length 0 0 (w6.alloc (.cells #[.string ⟨#[]⟩, .string ⟨#[]⟩, .string ⟨#[]⟩, .int .i64 0, .int .i64 0, .slice none 0 0] 24)) HEc.out.fd HEd.out.fd rfl rfl HXL.out HXL.out
          rw [sameE_refl] at hsm
          have HSM := Lib.hid (show Calls Tryz.prog 13 #[.agg #[.string ⟨#[]⟩, .string ⟨#[]⟩, .string ⟨#[]⟩, .int .i64 0, .int .i64 0, .slice none 0 0], .agg #[.string ⟨#[]⟩, .string ⟨#[]⟩, .string ⟨#[]⟩, .int .i64 0, .int .i64 0, .slice none 0 0]] (w6.alloc (.cells #[.string ⟨#[]⟩, .string ⟨#[]⟩, .string ⟨#[]⟩, .int .i64 0, .int .i64 0, .slice none 0 0] 24)) (fun x w' => x = .returned (.bool true) ∧ Below (w6.alloc (.cells #[.string ⟨#[]⟩, .string ⟨#[]⟩, .string ⟨#[]⟩, .int .i64 0, .int .i64 0, .slice none 0 0] 24)).heap.size (w6.alloc (.cells #[.string ⟨#[]⟩, .string ⟨#[]⟩, .string ⟨#[]⟩, .int .i64 0, .int .i64 0, .slice none 0 0] 24)) w') from hsm)
          clear hb6 hsm x0 x1 x2 x3 x4 x5 d0 d1 d2 g0 g1 g2 HX4 hz5 hz5v
          obtain ⟨x0, x1, x2, x3, x4, x5⟩ := HEb.out.eb.cells
          obtain ⟨d0, d1, d2, _, _, _⟩ := HVi.out.cells
          obtain ⟨g0, g1, g2, _, _, _⟩ := HVj.out.cells
          have hza := HEb.out.eb.lt
          have hzb := VB.lt HVi.out
          have hzc := VB.lt HVj.out
          simp only [ev0, List.length_nil] at x0 x1 x2 x3 x4 x5
          go_wp2_with fail
          ((with_reducible refine HSM.out.mono ?_); rintro x w7 ⟨rfl, hb7⟩)
          go_wp2_with fail
          go_ret
          exact ⟨ret_bool (by simp), below_then HBl.out hb7⟩
end Go.Proofs.YtbbdgncjpbfooaaGreatDoor
