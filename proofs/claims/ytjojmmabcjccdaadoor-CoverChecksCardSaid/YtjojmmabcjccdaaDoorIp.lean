/- CoverChecks: the walk through the statement. A certificate that came in, as it is read. -/
import Derived.Test.YtjojmmabcjccdaaDoorHi
import Derived.Test.YtjojmmabcjccdaaDoorIi
import Derived.Test.YtjojmmabcjccdaaDoorIn
import Derived.Test.YtjojmmabcjccdaaDoorIa
namespace Go.Proofs.YtjojmmabcjccdaaDoor
section
open Go.RowKit

/-- a marking is too long for the statement -/
def long12 (s : List Int) : Bool := decide (12 < s.length)
theorem checks1_any (Ax : Option Addr) (nx cx : Nat) (X : List Int) (w : World) (hl : X.length = nx) : Calls Tryd.prog 32 #[.slice Ax nx cx] w fun e w' => e = .returned (.bool (long12 X)) ∧ Below w.heap.size w w' := by
  have HV := Lib.hid (show decide ((12 : Int) < (nx : Int)) = long12 X by unfold long12; rw [hl, Bool.eq_iff_iff]; simp; omega)
  clear hl
  go_enter Tryd.func32, Tryd.ntmps32
  go_wp2_with fail
  go_ret
  exact ⟨ret_bool HV.out, Below.refl _ _⟩
set_option maxHeartbeats 3200000 in
set_option maxRecDepth 100000 in
theorem lindex_ck (A : Option Addr) (n cap : Nat) (L : List (List Int)) (w : World) (h : LIn w A L) (hn : L.length = n) (hn4 : n ≤ 9223372036854775806) :
    Calls Tryd.prog 53 #[.slice A n cap, .func (.func 32) #[] #[]] w fun e w' => e = .returned (.int .i64 (lidx long12 L)) ∧ Below w.heap.size w w' := by
  have H0 := Lib.hid h; clear h
  have HN := Lib.hid hn; clear hn
  skip
  go_enter Tryd.func53, Tryd.ntmps53
  go_wp2_with fail
  go_loopg [8] (n) (fun g i wr => ∃ k : Nat, k + g = n ∧ i = .int .i64 k ∧ (∀ s ∈ L.take k, long12 s = false) ∧ Below w.heap.size w wr)
  case atStart => exact ⟨0, by omega, rfl, by simp, Below.refl _ _⟩
  case round =>
    obtain ⟨k, hk, rfl, hno, hB⟩ := hrel
    have HK := Lib.hid hk
    have HNo := Lib.hid hno
    have HB := Lib.hid hB
    have HT := Lib.hid (H0.out.below hB)
    have hle : k ≤ n := by omega
    clear hk hno hB
    by_cases hlt : k < n
    · have hlt' : k < L.length := by rw [HN.out]; exact hlt
      obtain ⟨ad, rfl, hp, u, c0, Ax, nx, cx, rfl, zx, hxl, hxc, hxd⟩ := HT.out k hlt'
      have HTk := Lib.hid (List.take_succ_eq_append_getElem hlt')
      have HAt := Lib.hid (lidx_at (p := long12) hlt')
      have hXm := List.getElem_mem hlt'
      generalize L[k] = X at *
      have HX := Lib.hid (checks1_any Ax nx cx X wr hxl)
      clear hlt' zx hxl hXm
      cases hv : long12 X with
      | true =>
        rw [hv] at HX
        have HV := Lib.hid (HAt.out hv HNo.out); clear hv
        go_wp2_with fail
        ((with_reducible refine HX.out.mono ?_); rintro e w1 ⟨rfl, hb1⟩)
        have HB1 := Lib.hid (below_then HB.out hb1)
        go_wp2_with fail
        go_ret
        exact ⟨ret_int HV.out.symm, HB1.out⟩
      | false =>
        rw [hv] at HX
        have HV := Lib.hid hv; clear hv HAt
        go_wp2_with fail
        ((with_reducible refine HX.out.mono ?_); rintro e w1 ⟨rfl, hb1⟩)
        have HB1 := Lib.hid (below_then HB.out hb1)
        clear hb1
        go_wp2_with fail
        go_roundg (gk - 1)
        case measure => have := HK.out; omega
        case rel => exact ⟨k + 1, by have := HK.out; omega, by go_num, by
          rw [HTk.out]; intro s hs
          rcases List.mem_append.1 hs with h1 | h1
          · exact HNo.out s h1
          · have : s = X := by simpa using h1
            rw [this]; exact HV.out, HB1.out⟩
    · have HV := Lib.hid (show lidx long12 L = -1 from lidx_no (by have := HNo.out; rwa [List.take_of_length_le (by rw [HN.out]; omega)] at this))
      go_wp2_with fail
      go_ret
      exact ⟨ret_int HV.out.symm, HB.out⟩
set_option maxHeartbeats 800000 in
theorem lcont_ck (A : Option Addr) (n cap : Nat) (L : List (List Int)) (w : World) (h : LIn w A L) (hn : L.length = n) (hn4 : n ≤ 9223372036854775806) :
    Calls Tryd.prog 31 #[.slice A n cap, .func (.func 32) #[] #[]] w fun e w' => e = .returned (.bool (L.any long12)) ∧ Below w.heap.size w w' := by
  have HI := Lib.hid (lindex_ck A n cap L w h hn hn4)
  have HE := Lib.hid (lidx_any long12 L)
  clear h hn
  generalize lidx long12 L = r at HI HE
  go_enter Tryd.func31, Tryd.ntmps31
  go_wp2_with fail
  ((with_reducible refine HI.out.mono ?_); rintro e w1 ⟨rfl, hb1⟩)
  have HB1 := Lib.hid hb1
  go_wp2_with fail
  go_ret
  exact ⟨ret_bool HE.out, HB1.out⟩
/-- a certificate that came in -/
def CtIn0 (w : World) (v : Value) (C : Ct) : Prop :=
  ∃ Ar nr cr Ap np cp Ak nk ck A5 n5 c5 A6 n6 c6 A7 n7 c7, v = .agg #[.int .i64 C.cl, .int .i64 C.n, .slice Ar nr cr, .slice Ap np cp, .slice Ak nk ck, .slice A5 n5 c5, .slice A6 n6 c6, .slice A7 n7 c7] ∧
    (ZIn w Ar C.run ∧ C.run.length = nr) ∧ (ZIn w Ap C.pump ∧ C.pump.length = np) ∧ (LIn w Ak C.marks ∧ C.marks.length = nk)
set_option maxHeartbeats 12800000 in
set_option maxRecDepth 100000 in
theorem coverChecks_walk (N : Nt) (A : Option Addr) (n c : Nat) (Am : Option Addr) (m cm : Nat) (M : List Int) (v : Value) (C : Ct) (w : World) (ht : Tb w) (h : NtIn w A N) (hn : N.tr.length = n) (hn2 : n ≤ 9223372036854775807) (hM : ZIn w Am M) (hm : M.length = m) (hm1 : m ≤ cm) (hm2 : cm ≤ 9223372036854775807) (_hz : ∀ z ∈ M, -9223372036854775808 ≤ z ∧ z ≤ 9223372036854775807) (hC : CtIn0 w v C) :
    Calls Tryd.prog 7 #[.agg #[.int .i64 N.pl, .slice A n c, .int .i64 N.src, .int .i64 N.snk], .slice Am m cm, v] w fun e w' => e = .returned (.bool true) ∧ Below w.heap.size w w' := by
  obtain ⟨Ar, nr, cr, Ap, np, cp, Ak, nk, ck, A5, n5, c5, A6, n6, c6, A7, n7, c7, rfl, ⟨hr1, hr2⟩, ⟨hp1, hp2⟩, hq1, hq2⟩ := hC
  have HB := Lib.hid (two_boxes w (.cells #[.int .i64 N.pl, .slice A n c, .int .i64 N.src, .int .i64 N.snk] 24) (.cells #[.int .i64 C.cl, .int .i64 C.n, .slice Ar nr cr, .slice Ap np cp, .slice Ak nk ck, .slice A5 n5 c5, .slice A6 n6 c6, .slice A7 n7 c7] 41))
  have hnew := heap_alloc_new (w.alloc (.cells #[.int .i64 N.pl, .slice A n c, .int .i64 N.src, .int .i64 N.snk] 24)) (.cells #[.int .i64 C.cl, .int .i64 C.n, .slice Ar nr cr, .slice Ap np cp, .slice Ak nk ck, .slice A5 n5 c5, .slice A6 n6 c6, .slice A7 n7 c7] 41)
  rw [World.size_alloc] at hnew
  have HCt := Lib.hid (show CtB _ (w.heap.size + 1) #[.int .i64 C.cl, .int .i64 C.n, .slice Ar nr cr, .slice Ap np cp, .slice Ak nk ck, .slice A5 n5 c5, .slice A6 n6 c6, .slice A7 n7 c7] from hnew)
  have HNb := Lib.hid ((NB.new w N.pl A n c N.src N.snk).below (below_alloc _ (.cells #[.int .i64 C.cl, .int .i64 C.n, .slice Ar nr cr, .slice Ap np cp, .slice Ak nk ck, .slice A5 n5 c5, .slice A6 n6 c6, .slice A7 n7 c7] 41)))
  have HIn := Lib.hid (h.below HB.out)
  have HZ := Lib.hid (hM.below HB.out)
  have HR := Lib.hid (hr1.below HB.out)
  have HP := Lib.hid (hp1.below HB.out)
  have HK := Lib.hid (hq1.below HB.out)
  have HT := Lib.hid (ht.below HB.out)
  have HRl := Lib.hid hr2
  have HPl := Lib.hid hp2
  have HKl := Lib.hid hq2
  have HM := Lib.hid hm
  have HNl := Lib.hid hn
  clear h hn hM hm hr1 hp1 hq1 hr2 hp2 hq2 hnew ht
  go_enter Tryd.func7, Tryd.ntmps7
  go_wp2_with fail
  generalize (w.alloc _).alloc _ = w0 at *
  have HAw := Lib.hid (awake_any w0 HT.out)
  ((with_reducible refine HAw.out.mono ?_); rintro e w1 ⟨rfl, hb1⟩)
  have HB1 := Lib.hid (below_then HB.out hb1)
  have HNb1 := Lib.hid (HNb.out.below hb1)
  have HIn1 := Lib.hid (HIn.out.below hb1)
  have HZ1 := Lib.hid (HZ.out.below hb1)
  have HT1 := Lib.hid (HT.out.below hb1)
  have HR1 := Lib.hid (HR.out.below hb1)
  have HP1 := Lib.hid (HP.out.below hb1)
  have HK1 := Lib.hid (HK.out.below hb1)
  have HCt1 := Lib.hid (HCt.out.below hb1)
  clear HAw hb1 HB HNb HIn HZ HT HR HP HK HCt
  obtain ⟨b0, b1, b2, b3⟩ := HNb1.out.cells
  have HSm := Lib.hid (small_any N A n c Am m cm w1 HIn1.out HNl.out hn2)
  go_wp2_with fail
  ((with_reducible refine HSm.out.mono ?_); rintro e w2 ⟨b, rfl, hb2⟩)
  have HB2 := Lib.hid (below_then HB1.out hb2)
  have HNb2 := Lib.hid (HNb1.out.below hb2)
  have HIn2 := Lib.hid (HIn1.out.below hb2)
  have HZ2 := Lib.hid (HZ1.out.below hb2)
  have HT2 := Lib.hid (HT1.out.below hb2)
  have HR2 := Lib.hid (HR1.out.below hb2)
  have HP2 := Lib.hid (HP1.out.below hb2)
  have HK2 := Lib.hid (HK1.out.below hb2)
  have HCt2 := Lib.hid (HCt1.out.below hb2)
  clear HSm hb2 HB1 HNb1 HIn1 HZ1 HT1 HR1 HP1 HK1 HCt1 b0 b1 b2 b3
  obtain ⟨b0, b1, b2, b3⟩ := HNb2.out.cells
  obtain ⟨x0, x1, x2, x3, x4, x5, x6, x7⟩ := HCt2.out.cells
  have HAw := Lib.hid (awake_any w2 HT2.out)
  cases b with
  | false =>
    go_wp2_with fail
    ((with_reducible refine HAw.out.mono ?_); rintro e w9 ⟨rfl, hb9⟩)
    have HB9 := Lib.hid (below_then HB2.out hb9)
    go_wp2_with fail
    go_ret
    exact ⟨rfl, HB9.out⟩
  | true =>
    by_cases h1 : 80 < nk
    · have q1 : decide ((80 : Int) < (nk : Int)) = true := by simp; omega
      clear h1
      go_wp2_with fail
      ((with_reducible refine HAw.out.mono ?_); rintro e w9 ⟨rfl, hb9⟩)
      have HB9 := Lib.hid (below_then HB2.out hb9)
      go_wp2_with fail
      go_ret
      exact ⟨rfl, HB9.out⟩
    have q1 : decide ((80 : Int) < (nk : Int)) = false := by simp; omega
    by_cases h2 : 100 < nr
    · have q2 : decide ((100 : Int) < (nr : Int)) = true := by simp; omega
      clear h1 h2
      go_wp2_with fail
      ((with_reducible refine HAw.out.mono ?_); rintro e w9 ⟨rfl, hb9⟩)
      have HB9 := Lib.hid (below_then HB2.out hb9)
      go_wp2_with fail
      go_ret
      exact ⟨rfl, HB9.out⟩
    have q2 : decide ((100 : Int) < (nr : Int)) = false := by simp; omega
    by_cases h3 : 100 < np
    · have q3 : decide ((100 : Int) < (np : Int)) = true := by simp; omega
      clear h1 h2 h3
      go_wp2_with fail
      ((with_reducible refine HAw.out.mono ?_); rintro e w9 ⟨rfl, hb9⟩)
      have HB9 := Lib.hid (below_then HB2.out hb9)
      go_wp2_with fail
      go_ret
      exact ⟨rfl, HB9.out⟩
    have q3 : decide ((100 : Int) < (np : Int)) = false := by simp; omega
    have hnk : nk ≤ 80 := by omega
    clear h1 h2 h3
    have HLc := Lib.hid (lcont_ck Ak nk ck C.marks w2 HK2.out HKl.out (by omega))
    go_wp2_with fail
    ((with_reducible refine HLc.out.mono ?_); rintro e w3 ⟨rfl, hb3⟩)
    have HB3 := Lib.hid (below_then HB2.out hb3)
    have HNb3 := Lib.hid (HNb2.out.below hb3)
    have HIn3 := Lib.hid (HIn2.out.below hb3)
    have HZ3 := Lib.hid (HZ2.out.below hb3)
    have HT3 := Lib.hid (HT2.out.below hb3)
    have HR3 := Lib.hid (HR2.out.below hb3)
    have HP3 := Lib.hid (HP2.out.below hb3)
    have HK3 := Lib.hid (HK2.out.below hb3)
    have HCt3 := Lib.hid (HCt2.out.below hb3)
    clear HLc hb3 HB2 HNb2 HIn2 HZ2 HT2 HR2 HP2 HK2 HCt2 b0 b1 b2 b3 x0 x1 x2 x3 x4 x5 x6 x7 HAw
    obtain ⟨b0, b1, b2, b3⟩ := HNb3.out.cells
    obtain ⟨x0, x1, x2, x3, x4, x5, x6, x7⟩ := HCt3.out.cells
    generalize C.marks.any long12 = bl
    cases bl with
    | true =>
      have HAw := Lib.hid (awake_any w3 HT3.out)
      go_wp2_with fail
      ((with_reducible refine HAw.out.mono ?_); rintro e w9 ⟨rfl, hb9⟩)
      have HB9 := Lib.hid (below_then HB3.out hb9)
      go_wp2_with fail
      go_ret
      exact ⟨rfl, HB9.out⟩
    | false =>
      go_wp2_with fail
      have HCi := Lib.hid (show CtIn w3 (.agg #[.int .i64 C.cl, .int .i64 C.n, .slice Ar nr cr, .slice Ap np cp, .slice Ak nk ck, .slice A5 n5 c5, .slice A6 n6 c6, .slice A7 n7 c7]) C from ⟨Ar, nr, cr, Ap, np, cp, Ak, nk, ck, A5, n5, c5, A6, n6, c6, A7, n7, c7, rfl, ⟨HR3.out, HRl.out⟩, ⟨HP3.out, HPl.out⟩, HK3.out, HKl.out, by omega⟩)
      have HC1 := Lib.hid (fun d os => ccheck_any N A n c Am m cm M _ C _ (HT3.out.below (below_regrown w3 d os)) (HIn3.out.below (below_regrown w3 d os)) HNl.out hn2 (HZ3.out.below (below_regrown w3 d os)) HM.out (by omega) (HCi.out.below (below_regrown w3 d os)))
      have HC2 := Lib.hid (fun d os => rcheck_any N A n c Am m cm M _ C _ (HIn3.out.below (below_regrown w3 d os)) HNl.out hn2 (HZ3.out.below (below_regrown w3 d os)) HM.out (by omega) (HCi.out.below (below_regrown w3 d os)))
      have a0 := fun d os => cell_regrown b0 d os
      have a1 := fun d os => cell_regrown b1 d os
      have a2 := fun d os => cell_regrown b2 d os
      have a3 := fun d os => cell_regrown b3 d os
      have e0 := fun d os => cell_regrown x0 d os
      have e1 := fun d os => cell_regrown x1 d os
      have e2 := fun d os => cell_regrown x2 d os
      have e3 := fun d os => cell_regrown x3 d os
      have e4 := fun d os => cell_regrown x4 d os
      have e5 := fun d os => cell_regrown x5 d os
      have e6 := fun d os => cell_regrown x6 d os
      have e7 := fun d os => cell_regrown x7 d os
      generalize chkB N M C = r at *
      refine wp_region_quiet_below (by kernel_rfl) (by kernel_rfl) ?_
      repeat (quiet_step (first | exact Calls.regrown_of (HC1.out _ _) | exact Calls.regrown_of (HC2.out _ _)))
      refine wpQuiet_nil ?_
      intro _ hw'
      obtain ⟨⟨dq, osq⟩, hw''⟩ := hw'
      subst hw''
      have HB4 := Lib.hid (below_then HB3.out (below_regrown w3 dq osq))
      clear a0 a1 a2 a3 e0 e1 e2 e3 e4 e5 e6 e7
      go_wp2_with fail
      go_ret
      exact ⟨ret_bool (by cases r <;> rfl), HB4.out⟩
end
section
open Go.ChangeShapes Go.WideShapes Go.ChangeAt Go.WideMaps Go.WideElems Go.RowKit Go.Deep

theorem c_ll : Tryd.prog.cellsOf 28 = 1 := by kernel_rfl
theorem c_mvs : Tryd.prog.cellsOf 29 = 1 := by kernel_rfl
theorem c_cert : Tryd.prog.cellsOf 41 = 8 := by kernel_rfl
instance : Inhabited (Value × List Int) := ⟨(.nilIface, [])⟩
section
variable {H : Type} {enc : TypeId × Value → H} {W : World}
/-- a slice of lists of numbers that came in, as a cell -/
theorem open_ll {fuel : Nat} {c : Value} {d : DataW H} {p : List MemPlace}
    (hf : DataW.trod enc Tryd.prog W 0 (fun _ => true) true fuel 28 [c] = some (d, p)) :
    ∃ (A : Option Addr) (n cap : Nat) (L : List (List Int)), c = .slice A n cap ∧ LIn W A L ∧ L.length = n := by
  rcases open_slice Tryd.underlying28 hf with ⟨hcs, _⟩ | ⟨a, len, cap, m, n, D, Pl, hcs, hb, hl, hm, hmm, hx, hi⟩
  · simp at hcs
    subst hcs
    exact ⟨none, 0, 0, [], rfl, fun i hi => by simp at hi, rfl⟩
  · simp at hcs
    subst hcs
    rw [c_ints] at hi
    simp only [if_true] at hmm
    subst hmm
    have key : ∀ i, i < len → ∃ z : List Int, True ∧ (a.add i).block < W.heap.size ∧ ∃ u, W.cell? (a.add i) = some u ∧ SlIn W u z := by
      intro i hil
      obtain ⟨cs', hc, ht⟩ := hi i (by omega)
      obtain ⟨_, hcl, hat⟩ := World.cells?_some hc
      match cs', hcl with
      | [c0], _ =>
        obtain ⟨A, n, cap, Z, rfl, hz, h1, h2, h3, _⟩ := open_zl ht
        have a0 := hat 0 (by omega)
        rw [Nat.mul_one] at a0
        generalize a.add i = q at *
        have a1 : W.cell? q = some (.slice A n cap) := by simpa [Addr.add] using a0
        exact ⟨Z, trivial, block_lt_of_cell a1, _, a1, A, n, cap, rfl, hz, h1, h2, h3⟩
    obtain ⟨f, hf'⟩ := choose_lt key
    refine ⟨some a, len, m, (List.range len).map f, rfl, ?_, by simp⟩
    intro i hil
    have hil' : i < len := by simpa using hil
    obtain ⟨_, h2, u, h3, h4⟩ := hf' i hil'
    exact ⟨a, rfl, h2, u, h3, by simpa using h4⟩
/-- a slice, as a cell -/
theorem open_sl {t e : TypeId} (hu : Tryd.prog.underlying t = some (.slice e)) {fuel : Nat} {c : Value} {d : DataW H} {p : List MemPlace}
    (hf : DataW.trod enc Tryd.prog W 0 (fun _ => true) true fuel t [c] = some (d, p)) : ∃ (A : Option Addr) (n cap : Nat), c = .slice A n cap := by
  rcases open_slice hu hf with ⟨hcs, _⟩ | ⟨a, len, cap, m, n, D, Pl, hcs, _⟩
  · simp at hcs; exact ⟨_, _, _, hcs⟩
  · simp at hcs; exact ⟨_, _, _, hcs⟩
end
theorem open_eight {P : Program} {w : World} {r : Go.Reach} {b0 : Nat} {t : TypeId} {fs : Array Field} {v : Value} (hs : P.underlying t = some (.struct fs)) (hC : P.cellsOf t = 8) (hv : Value.okWide P w r b0 t v) : ∃ c0 c1 c2 c3 c4 c5 c6 c7, v = .agg #[c0, c1, c2, c3, c4, c5, c6, c7] := by
  obtain ⟨cs, rfl, hsz⟩ := okWide_struct hs hv
  obtain ⟨q⟩ := cs
  match q, hsz.trans hC with
  | [c0, c1, c2, c3, c4, c5, c6, c7], _ => exact ⟨c0, c1, c2, c3, c4, c5, c6, c7, rfl⟩
set_option maxRecDepth 100000 in
theorem open_cert {H : Type} {enc : TypeId × Value → H} {W : World} {base : Nat} {v : Value} {d : DataW H} {p : List MemPlace}
    (hv : Value.okWide Tryd.prog W .any base 41 v) (h : DataW.Trod enc Tryd.prog W 0 (fun _ => true) true 41 v d p) : ∃ C : Ct, CtIn0 W v C := by
  obtain ⟨c0, c1, c2, c3, c4, c5, c6, c7, rfl⟩ := open_eight Tryd.underlying41 c_cert hv
  obtain ⟨fuel, hf⟩ := h
  obtain ⟨xs, n, _, hx, _, hlen, hg⟩ := DataW.trod_struct Tryd.underlying41 hf
  match xs, hlen with
  | [y0, y1, y2, y3, y4, y5, y6, y7], _ =>
    have g0 := hg 0 _ rfl
    have g1 := hg 1 _ rfl
    have g2 := hg 2 _ rfl
    have g3 := hg 3 _ rfl
    have g4 := hg 4 _ rfl
    have g5 := hg 5 _ rfl
    have g6 := hg 6 _ rfl
    have g7 := hg 7 _ rfl
    simp [c_int, c_ints, c_ll, c_mvs, Value.cells] at g0 g1 g2 g3 g4 g5 g6 g7
    obtain ⟨a, e0, _, _⟩ := DataW.trod_int Tryd.underlying3 g0
    obtain ⟨b, e1, _, _⟩ := DataW.trod_int Tryd.underlying3 g1
    obtain ⟨Ar, nr, cr, Zr, e2, r1, r2, _⟩ := open_zl g2
    obtain ⟨Ap, np, cp, Zp, e3, p1, p2, _⟩ := open_zl g3
    obtain ⟨Ak, nk, ck, L, e4, k1, k2⟩ := open_ll g4
    obtain ⟨A5, n5, k5, e5⟩ := open_sl Tryd.underlying29 g5
    obtain ⟨A6, n6, k6, e6⟩ := open_sl Tryd.underlying28 g6
    obtain ⟨A7, n7, k7, e7⟩ := open_sl Tryd.underlying28 g7
    simp at e0 e1
    subst e0 e1 e2 e3 e4 e5 e6 e7
    exact ⟨⟨a, b, Zr, Zp, L⟩, Ar, nr, cr, Ap, np, cp, Ak, nk, ck, A5, n5, k5, A6, n6, k6, A7, n7, k7, rfl, ⟨r1, r2⟩, ⟨p1, p2⟩, k1, k2⟩
end
end Go.Proofs.YtjojmmabcjccdaaDoor
