/- cover.Graph: what a call returns. -/
import Derived.Test.YtjojmmabcjccdaaDoorDm
namespace Go.Proofs.YtjojmmabcjccdaaDoor
open Go.RowKit

/-- what begin answers: an error number, or the tree -/
def beR (N : Nt) (LL : List (List Int)) (place most : Int) : Sum Int TS :=
  if LL.all (mkB N) then (if badR N place most then .inl 2 else match growT N (LL.headD []) most.toNat with | some T => .inr T | none => .inl 13) else .inl 1
theorem BePo.parts {N : Nt} {LL : List (List Int)} {place most : Int} {w w' : World} {e : Ending} (h : BePo N LL place most w e w') :
    (∃ k : Int, beR N LL place most = .inl k ∧ (k != 0) = true ∧ e = .returned (.tuple #[.pointer none, .int .i64 k]) ∧ Below w.heap.size w w') ∨
    ∃ T tb vN vS NL SL, beR N LL place most = .inr T ∧ e = .returned (.tuple #[.pointer (some ⟨tb, 0, none⟩), .int .i64 0]) ∧ GP w w' tb vN vS NL SL T ∧ growT N (LL.headD []) most.toNat = some T ∧ LL.all (mkB N) = true := by
  unfold BePo at h
  unfold beR
  cases h1 : LL.all (mkB N) with
  | false =>
    rw [h1] at h
    exact .inl ⟨1, rfl, rfl, h.1, h.2⟩
  | true =>
    rw [h1] at h
    simp only [if_true] at h ⊢
    cases h2 : badR N place most with
    | true =>
      rw [h2] at h
      exact .inl ⟨2, rfl, rfl, h.1, h.2⟩
    | false =>
      rw [h2] at h
      simp only [Bool.false_eq_true, if_false] at h ⊢
      cases h3 : growT N (LL.headD []) most.toNat with
      | none =>
        rw [h3] at h
        exact .inl ⟨13, rfl, rfl, h.1, h.2⟩
      | some T =>
        rw [h3] at h
        obtain ⟨tb, vN, vS, NL, SL, h4, h5⟩ : ∃ tb vN vS NL SL, e = .returned (.tuple #[.pointer (some ⟨tb, 0, none⟩), .int .i64 0]) ∧ GP w w' tb vN vS NL SL T := h
        exact .inr ⟨T, tb, vN, vS, NL, SL, rfl, h4, h5, rfl, trivial⟩
/-- the tree of a marking of a valid net -/
theorem grow_good {N : Nt} {M : List Int} {most : Nat} {T : TS} (hv : mkB N M = true) (h : growT N M most = some T) : TInv N M T ∧ Done N T ∧ netOk N M.length ∧ isM M :=
  ⟨(growT_inv h).1, (growT_inv h).2, netOk_of (mk_nt hv) (mk_len hv), mkM hv⟩
theorem TInv.slen {N : Nt} {M : List Int} {T : TS} (h : TInv N M T) (hN : netOk N M.length) (hM : isM M) : ∀ s ∈ T.states, s.length = M.length := by
  intro s hs
  obtain ⟨q, hq, rfl⟩ := List.getElem_of_mem hs
  obtain ⟨j, d, hd, _, hst⟩ := h.own q hq
  have hst2 := h.st j d hd
  rw [hst, List.getElem?_eq_getElem hq] at hst2
  have e := Option.some.inj hst2
  rw [e]; exact (h.fine hN hM j d hd).lm
/-- a block with one slice -/
theorem lin_one {w : World} {Am : Option Addr} {m cm : Nat} {M : List Int} (hz : ZIn w Am M) (hm : M.length = m) (h1 : m ≤ cm) (h2 : cm ≤ 9223372036854775807) : LIn (w.alloc (.cells #[.slice Am m cm] 25)) (some ⟨w.heap.size, 0, none⟩) [M] := by
  intro i hi
  have hi0 : i = 0 := by simp at hi; omega
  subst hi0
  have hn := heap_alloc_new w (.cells #[.slice Am m cm] 25)
  refine ⟨_, rfl, by rw [add_block]; simp, .slice Am m cm, ?_, Am, m, cm, rfl, hz.below (below_alloc w _), hm, h1, h2⟩
  rw [add0]
  simp only [World.cell?, hn]
  rfl
theorem bset3 {w w1 : World} {b : Nat} (h : Below w.heap.size w w1) (hb : w.heap.size ≤ b) (u v x : Value) : Below w.heap.size w (((w1.setCell ⟨b, 0, none⟩ u).setCell ⟨b, 1, none⟩ v).setCell ⟨b, 2, none⟩ x) :=
  ((h.setCell (p := ⟨b, 0, none⟩) hb u).setCell (p := ⟨b, 1, none⟩) hb v).setCell (p := ⟨b, 2, none⟩) hb x
/-- what a call does -/
def GphPo (N : Nt) (M : List Int) (most : Int) (w : World) (e : Ending) (w' : World) : Prop :=
  Below w.heap.size w w' ∧ match beR N [M] 0 most with
  | .inl k => e = .returned (.tuple #[.agg #[.slice none 0 0, .slice none 0 0, .bool false], .int .i64 k])
  | .inr T => ∃ vS vM, e = .returned (.tuple #[.agg #[vS, vM, .bool true], .int .i64 0]) ∧ OLL w w' vS T.states ∧ OMv w w' vM (movesOf T)
theorem GphPo.no {N : Nt} {M : List Int} {most : Int} {w w' : World} {e : Ending} {k : Int} (h : beR N [M] 0 most = .inl k) (hb : Below w.heap.size w w') (he : e = .returned (.tuple #[.agg #[.slice none 0 0, .slice none 0 0, .bool false], .int .i64 k])) : GphPo N M most w e w' := by
  refine ⟨hb, ?_⟩; rw [h]; exact he
theorem GphPo.yes {N : Nt} {M : List Int} {most : Int} {w w' : World} {e : Ending} {T : TS} {vS vM : Value} (h : beR N [M] 0 most = .inr T) (he : e = .returned (.tuple #[.agg #[vS, vM, .bool true], .int .i64 0])) (hs : OLL w w' vS T.states) (hm : OMv w w' vM (movesOf T)) : GphPo N M most w e w' := by
  refine ⟨hs.bel, ?_⟩; rw [h]; exact ⟨vS, vM, he, hs, hm⟩
set_option maxHeartbeats 6400000 in
set_option maxRecDepth 100000 in
theorem graph_any (N : Nt) (A : Option Addr) (n c : Nat) (Am : Option Addr) (m cm : Nat) (M : List Int) (most : Int) (w : World) (h : NtIn w A N) (hn : N.tr.length = n) (hn2 : n ≤ 9223372036854775807) (hM : ZIn w Am M) (hm : M.length = m) (hm1 : m ≤ cm) (hm2 : cm ≤ 9223372036854775807) (ht : Tb w) :
    Calls Tryd.prog 12 #[.agg #[.int .i64 N.pl, .slice A n c, .int .i64 N.src, .int .i64 N.snk], .slice Am m cm, .int .i64 most] w (GphPo N M most w) := by
  have HB := Lib.hid (two_boxes w (.cells #[.int .i64 N.pl, .slice A n c, .int .i64 N.src, .int .i64 N.snk] 24) (.cells #[.slice none 0 0, .slice none 0 0, .bool false] 31))
  have hnew := heap_alloc_new (w.alloc (.cells #[.int .i64 N.pl, .slice A n c, .int .i64 N.src, .int .i64 N.snk] 24)) (.cells #[.slice none 0 0, .slice none 0 0, .bool false] 31)
  rw [World.size_alloc] at hnew
  have HRb := Lib.hid (show SpB _ (w.heap.size + 1) (.slice none 0 0) (.slice none 0 0) false from hnew)
  have HNb := Lib.hid ((NB.new w N.pl A n c N.src N.snk).below (below_alloc _ (.cells #[.slice none 0 0, .slice none 0 0, .bool false] 31)))
  have hs0 : ((w.alloc (.cells #[.int .i64 N.pl, .slice A n c, .int .i64 N.src, .int .i64 N.snk] 24)).alloc (.cells #[.slice none 0 0, .slice none 0 0, .bool false] 31)).heap.size = w.heap.size + 1 + 1 := by simp
  have HIn := Lib.hid (h.below HB.out)
  have HZ := Lib.hid (hM.below HB.out)
  have HT := Lib.hid (ht.below HB.out)
  clear h hM ht hnew
  go_enter Tryd.func12, Tryd.ntmps12
  go_wp2_with fail
  generalize hrb : w.heap.size + 1 = rb at *
  generalize (w.alloc _).alloc _ = w0 at *
  obtain ⟨b0, b1, b2, b3⟩ := HNb.out.cells
  have hrbw : w.heap.size ≤ rb := by omega
  clear hrb
  have HL := Lib.hid (lin_one HZ.out hm hm1 hm2)
  have HBe := Lib.hid (begin_any N A n c (some ⟨w0.heap.size, 0, none⟩) 1 1 [M] 0 most _ (HIn.out.below (below_alloc w0 (.cells #[.slice Am m cm] 25))) hn hn2 HL.out rfl (by decide) (by decide) (HT.out.below (below_alloc w0 _)))
  rw [hs0] at HBe
  have HAl := Lib.hid (below_alloc w0 (.cells #[.slice Am m cm] 25))
  ((with_reducible refine HBe.out.mono ?_); rintro e w1 hP)
  rcases hP.parts with ⟨k, hR, hk, rfl, hb1⟩ | ⟨T, tb, vN, vS, NL, SL, hR, rfl, hgp, hgr, hall⟩
  · have HR := Lib.hid hR
    have HRb1 := Lib.hid ((HRb.out.below HAl.out).below hb1)
    have HB1 := Lib.hid (below_then HB.out (below_then HAl.out hb1))
    clear hR hb1 hP HBe HL HIn HZ HT b0 b1 b2 b3 HNb
    obtain ⟨r0, r1, r2⟩ := HRb1.out.cells
    have rf0 := HRb1.out.soft 0
    have rf1 := HRb1.out.soft 1
    have rf2 := HRb1.out.soft 2
    have HRe := Lib.hid (((HRb1.out.set0 (.slice none 0 0)).set1 (.slice none 0 0)).set2 false)
    have HBe := Lib.hid (bset3 HB1.out hrbw (.slice none 0 0) (.slice none 0 0) (.bool false))
    go_wp2_with fail
    generalize ((w1.setCell ⟨rb, 0, none⟩ _).setCell ⟨rb, 1, none⟩ _).setCell ⟨rb, 2, none⟩ _ = we at *
    obtain ⟨d0, d1, d2⟩ := HRe.out.cells
    exact bodyPost_ret (v := .tuple #[.agg #[.slice none 0 0, .slice none 0 0, .bool false], .int .i64 k]) (by simp [results, Tryd.results12, go_sem, d0, d1, d2]) rfl (GphPo.no HR.out HBe.out rfl)
  · have hgood := grow_good (N := N) (M := M) (by simpa using hall) hgr
    have HR := Lib.hid hR
    have HSp := Lib.hid (space_any w0 tb vN vS NL SL N M T w1 (hgp.up HAl.out) hgood.1 (fun s hs => by
      have h1 := hgood.1.slen hgood.2.2.1 hgood.2.2.2 s hs
      have h2 := mk_len (N := N) (M := M) (by simpa using hall)
      have h3 := nt_small (mk_nt (N := N) (M := M) (by simpa using hall))
      omega))
    have HRb1 := Lib.hid ((HRb.out.below HAl.out).below hgp.bel)
    have HB1 := Lib.hid (below_then HB.out (below_then HAl.out hgp.bel))
    clear hR hP HBe HL HIn HZ HT b0 b1 b2 b3 HNb hgood hgr hall hgp
    go_wp2_with fail
    ((with_reducible refine HSp.out.mono ?_); rintro e w2 ⟨vS2, vM2, rfl, hO, hMv⟩)
    have HRb2 := Lib.hid (HRb1.out.below hO.bel)
    have HB2 := Lib.hid (below_then HB1.out hO.bel)
    have HO := Lib.hid (hO.up HB1.out)
    have HM := Lib.hid (hMv.up HB1.out)
    obtain ⟨Aa, ca, rfl⟩ := hO.slice
    obtain ⟨Ab, cb, rfl⟩ := hMv.slice
    clear HSp hO hMv
    obtain ⟨r0, r1, r2⟩ := HRb2.out.cells
    have rf0 := HRb2.out.soft 0
    have rf1 := HRb2.out.soft 1
    have rf2 := HRb2.out.soft 2
    have HRc := Lib.hid (HRb2.out.set0 (.slice Aa T.states.length ca))
    have HRd := Lib.hid (HRc.out.set1 (.slice Ab (movesOf T).length cb))
    have HRe := Lib.hid (HRd.out.set2 true)
    have HOe := Lib.hid (((HO.out.box (o := 0) HRb2.out (by decide) (by decide) hrbw (.slice Aa T.states.length ca)).box (o := 1) HRc.out (by decide) (by decide) hrbw (.slice Ab (movesOf T).length cb)).box (o := 2) HRd.out (by decide) (by decide) hrbw (.bool true))
    have HMe := Lib.hid (((HM.out.box (o := 0) HRb2.out (by decide) hrbw (.slice Aa T.states.length ca)).box (o := 1) HRc.out (by decide) hrbw (.slice Ab (movesOf T).length cb)).box (o := 2) HRd.out (by decide) hrbw (.bool true))
    clear HRc HRd
    go_wp2_with fail
    generalize ((w2.setCell ⟨rb, 0, none⟩ _).setCell ⟨rb, 1, none⟩ _).setCell ⟨rb, 2, none⟩ _ = we at *
    obtain ⟨d0, d1, d2⟩ := HRe.out.cells
    exact bodyPost_ret (v := .tuple #[.agg #[.slice Aa T.states.length ca, .slice Ab (movesOf T).length cb, .bool true], .int .i64 0]) (by simp [results, Tryd.results12, go_sem, d0, d1, d2]) rfl (GphPo.yes HR.out rfl HOe.out HMe.out)
end Go.Proofs.YtjojmmabcjccdaaDoor
