/- Graph of reference 24: what a call returns. -/
import Derived.Test.YtjojmmabcjccdaaDoorDq
namespace Go.Proofs.YtjojmmabcjccdaaDoor
open Go.RowKit

theorem addN_full {most : Nat} {T : TS} {x : Nd} (h : 20000 < T.nodes.length) : addN most T x = none := by
  unfold addN
  simp only [h, if_true]
  split
  · split <;> rfl
  · rfl
theorem Fine.le {n : Nat} {d : Nd} (h : Fine n d) (p : Nat) : d.ms.getD p 0 ≤ 100 := by
  have h1 := h.sp p
  rcases Nat.lt_or_ge p n with h2 | h2
  · rcases h.up p h2 with h3 | h3 <;> rw [h3] <;> omega
  · rw [getD_out (by rw [h.lm]; exact h2)]; omega
theorem addN_most {most : Nat} {T : TS} {x : Nd} (h : x.ms ∉ T.states) (hm : T.states.length = most) : addN most T x = none := by
  unfold addN
  rw [if_pos (idx_out h), if_pos hm]
theorem addN_new {most : Nat} {T : TS} {x : Nd} (h : x.ms ∉ T.states) (hm : T.states.length ≠ most) (hl : ¬ 20000 < T.nodes.length) : addN most T x = some ⟨T.nodes ++ [⟨x.pn, x.ms, x.ab, x.tr, T.states.length, x.gr, true, x.om⟩], T.states ++ [x.ms]⟩ := by
  unfold addN
  rw [if_pos (idx_out h), if_neg hm, if_neg hl]
theorem addN_old {most : Nat} {T : TS} {x : Nd} (h : x.ms ∈ T.states) (hl : ¬ 20000 < T.nodes.length) : addN most T x = some ⟨T.nodes ++ [⟨x.pn, x.ms, x.ab, x.tr, stIdx T x.ms, x.gr, false, x.om⟩], T.states⟩ ∧ findR T.states x.ms = ((stIdx T x.ms : Nat) : Int) := by
  have hlt : stIdx T x.ms < T.states.length := List.findIdx_lt_length_of_exists ⟨x.ms, h, by simp⟩
  refine ⟨?_, ?_⟩
  · unfold addN
    rw [if_neg (by omega), if_neg hl]
  · unfold findR
    unfold stIdx at hlt ⊢
    rw [if_neg (by omega)]
theorem moves_snoc {N : Nt} {M : List Int} {T : TS} (hI : TInv N M T) {i : Nat} {e d : Nd} (hi : T.nodes[i]? = some e) (hd : d.ab = (i : Int)) (S : List (List Int)) : movesOf ⟨T.nodes ++ [d], S⟩ = movesOf T ++ [⟨(e.st : Int), (d.st : Int), d.tr⟩] := by
  unfold movesOf
  have hl : 1 ≤ T.nodes.length := (List.getElem?_eq_some_iff.1 hI.root).1
  simp only
  rw [List.drop_append_of_le_length hl, List.map_append]
  congr 1
  · apply List.map_congr_left
    intro x hx
    obtain ⟨j, hj, rfl⟩ := List.getElem_of_mem hx
    rw [List.getElem_drop]
    rw [List.length_drop] at hj
    have h1 : T.nodes[1 + j]? = some T.nodes[1 + j] := List.getElem?_eq_getElem (by omega)
    obtain ⟨p, k, e', t, hp, ha, _, hp2, _⟩ := hI.par (1 + j) _ h1 (by omega)
    unfold mvOf
    simp only
    rw [ha, Int.toNat_natCast, List.getElem?_append_left (by omega)]
  · simp only [List.map_cons, List.map_nil]
    unfold mvOf
    simp only
    rw [hd, Int.toNat_natCast, List.getElem?_append_left (List.getElem?_eq_some_iff.1 hi).1, hi]
theorem rfire_big {N : Nt} {A : Option Addr} {n c : Nat} {Am : Option Addr} {m cm t : Nat} {L : List Int} {w : World} (h : Calls Tryd.prog 45 #[.agg #[.int .i64 N.pl, .slice A n c, .int .i64 N.src, .int .i64 N.snk], .slice Am m cm, .int .i64 t] w (RFi L w)) (hb : bigM L = true) :
    Calls Tryd.prog 45 #[.agg #[.int .i64 N.pl, .slice A n c, .int .i64 N.src, .int .i64 N.snk], .slice Am m cm, .int .i64 t] w fun e w' => e = .returned (.tuple #[.slice none 0 0, .bool false]) ∧ Below w.heap.size w w' :=
  h.mono fun e w' h1 => by unfold RFi at h1; rw [if_pos hb] at h1; exact h1
theorem rfire_ok {N : Nt} {A : Option Addr} {n c : Nat} {Am : Option Addr} {m cm t : Nat} {L : List Int} {w : World} (h : Calls Tryd.prog 45 #[.agg #[.int .i64 N.pl, .slice A n c, .int .i64 N.src, .int .i64 N.snk], .slice Am m cm, .int .i64 t] w (RFi L w)) (hb : bigM L = false) :
    Calls Tryd.prog 45 #[.agg #[.int .i64 N.pl, .slice A n c, .int .i64 N.src, .int .i64 N.snk], .slice Am m cm, .int .i64 t] w fun e w' => ∃ v, e = .returned (.tuple #[v, .bool true]) ∧ NS w w' v L :=
  h.mono fun e w' h1 => by unfold RFi at h1; rw [if_neg (by rw [hb]; decide)] at h1; exact h1
/-- what a call does -/
def RGPo (R : Option TS) (w : World) (e : Ending) (w' : World) : Prop := Below w.heap.size w w' ∧ match R with
  | some T => ∃ v, e = .returned (.tuple #[v, .bool true]) ∧ SpIn w' v T.states (movesOf T) true
  | none => e = .returned (.tuple #[.agg #[.slice none 0 0, .slice none 0 0, .bool false], .bool false])
theorem RGPo.no {R : Option TS} {w w' : World} {e : Ending} (h : R = none) (he : e = .returned (.tuple #[.agg #[.slice none 0 0, .slice none 0 0, .bool false], .bool false])) (hb : Below w.heap.size w w') : RGPo R w e w' := by subst h; exact ⟨hb, he⟩
theorem rg_start (w0 : World) (v : Value) (M : List Int) (hv : SlIn w0 v M) :
    RG w0 (((w0.alloc (.cells #[v] 25)).alloc (.cells #[.slice (some ⟨w0.heap.size, 0, none⟩) 1 1, .slice none 0 0, .bool true] 31)).alloc (.cells #[v, .int .i64 0, .int .i64 (-1), .bool true] 80)) (w0.heap.size + 1)
      (.slice (some ⟨w0.heap.size, 0, none⟩) 1 1) (.slice none 0 0) (.slice (some ⟨w0.heap.size + 1 + 1, 0, none⟩) 1 1) [v] [⟨⟨M, M, -1, -1, 0, -1, true, false⟩, v⟩] [M] [] [⟨M, M, -1, -1, 0, -1, true, false⟩] := by
  have h1 := below_alloc w0 (.cells #[v] 25)
  have h2 := below_alloc (w0.alloc (.cells #[v] 25)) (.cells #[.slice (some ⟨w0.heap.size, 0, none⟩) 1 1, .slice none 0 0, .bool true] 31)
  have h3 := below_alloc ((w0.alloc (.cells #[v] 25)).alloc (.cells #[.slice (some ⟨w0.heap.size, 0, none⟩) 1 1, .slice none 0 0, .bool true] 31)) (.cells #[v, .int .i64 0, .int .i64 (-1), .bool true] 80)
  have hb := below_then h1 (below_then h2 h3)
  have hn1 := heap_alloc_new (w0.alloc (.cells #[v] 25)) (.cells #[.slice (some ⟨w0.heap.size, 0, none⟩) 1 1, .slice none 0 0, .bool true] 31)
  rw [World.size_alloc] at hn1
  have ho1 := World.ownsRow_lit (base := w0.heap.size) (e := 25) (size := 1) w0 #[v] 1 (Nat.le_refl _) (by unfold maxLen; omega) rfl
  have ho2 := World.ownsRow_lit (base := w0.heap.size) (e := 80) (size := 4) ((w0.alloc (.cells #[v] 25)).alloc (.cells #[.slice (some ⟨w0.heap.size, 0, none⟩) 1 1, .slice none 0 0, .bool true] 31)) #[v, .int .i64 0, .int .i64 (-1), .bool true] 1 (by simp; omega) (by unfold maxLen; omega) rfl
  simp only [World.size_alloc] at ho2
  have hx : XS w0 (((w0.alloc (.cells #[v] 25)).alloc (.cells #[.slice (some ⟨w0.heap.size, 0, none⟩) 1 1, .slice none 0 0, .bool true] 31)).alloc (.cells #[v, .int .i64 0, .int .i64 (-1), .bool true] 80)) v M := .inr ⟨hv, hb⟩
  refine ⟨?_, by omega, own_stays (own_stays ho1 h2) h3, rfl, fun k x s hk hs => ?_, OMv.start hb, ho2, rfl, fun x hx' => ?_, hb⟩
  · unfold SpB
    rw [h3.block _ (by simp)]; exact hn1
  · match k, hk, hs with
    | 0, hk, hs => simp at hk hs; subst hk hs; exact hx
    | k + 1, hk, hs => simp at hk
  · have : x = ⟨⟨M, M, -1, -1, 0, -1, true, false⟩, v⟩ := by simpa using hx'
    subst this; exact hx
/-- the space is read -/
theorem RG.sp {w0 wr : World} {sb : Nat} {vS vM vN : Value} {SL : List Value} {NL : List Rv} {ST : List (List Int)} {MV : List Mv} {ND : List Nd} (h : RG w0 wr sb vS vM vN SL NL ST MV ND) : SpIn wr (.agg #[vS, vM, .bool true]) ST MV true := by
  obtain ⟨A, c, rfl, hl, h3, h4⟩ := h.lin
  obtain ⟨A', c', rfl, _, h5, h6, h7, _⟩ := own_rd mvC_len (by decide) h.mvs.1
  exact ⟨A, c, A', c', by rw [h.stl], hl, by have := h.stl; omega, h7, by omega⟩
theorem sl_other {w w' : World} {v : Value} {L : List Int} {rb : Nat} (h : SlIn w v L) (hb : SpB w rb (.slice none 0 0) (.slice none 0 0) false) (hg : w.grownBy w' (some rb)) : SlIn w' v L := by
  obtain ⟨A, n, c, rfl, hz, h1, h2, h3⟩ := h
  refine ⟨A, n, c, rfl, ?_, h1, h2, h3⟩
  rcases Nat.eq_zero_or_pos L.length with h0 | h0
  · obtain rfl : L = [] := List.eq_nil_of_length_eq_zero h0
    exact zin_empty
  obtain ⟨b, off, rfl, hbl, hc⟩ := zin_plain hz h0
  have hne : b ≠ rb := by
    rintro rfl
    have h4 := hc 0 h0
    unfold SpB at hb
    simp only [World.cell?, hb] at h4
    match off, h4 with
    | 0, h4 => simp at h4
    | 1, h4 => simp at h4
    | 2, h4 => simp at h4
    | o + 3, h4 => simp at h4
  intro i hi
  obtain ⟨ad, e, hl, hcl⟩ := hz i hi
  cases e
  refine ⟨_, rfl, by have := hg.size; omega, hg.cell hcl (fun e => hne ?_)⟩
  rw [add_block] at e
  exact (Option.some.inj e)
theorem RG.spo {w0 wr we : World} {sb rb : Nat} {vS vM vN : Value} {SL : List Value} {NL : List Rv} {ST : List (List Int)} {MV : List Mv} {ND : List Nd} (h : RG w0 wr sb vS vM vN SL NL ST MV ND) (hb : SpB wr rb (.slice none 0 0) (.slice none 0 0) false) (hg : wr.grownBy we (some rb)) : SpIn we (.agg #[vS, vM, .bool true]) ST MV true := by
  have hk := h.sts.kept hg (own_other h.sts hb (by decide))
  have hm := h.mvs.1.kept hg (own_other h.mvs.1 hb (by decide))
  obtain ⟨A', c', rfl, _, h5, h6, h7, _⟩ := own_rd mvC_len (by decide) hm
  rcases hk.2 with ⟨hv, hn⟩ | ⟨g, cap, cur, hv, hg', hh, hnc, hc, _⟩
  · exact ⟨none, 0, A', c', by rw [hv, ← h.stl, hn], fun i hi => by have := h.stl; omega, by have := h.stl; omega, h7, by omega⟩
  · have hgl : g < we.heap.size := (Array.getElem?_eq_some_iff.1 hh).1
    subst hv
    refine ⟨some ⟨g, 0, none⟩, cap, A', c', by rw [← h.stl], fun i hi => ⟨_, rfl, by rw [add_block]; exact hgl, ?_⟩, by have := h.stl; unfold maxLen at hc; omega, h7, by omega⟩
    have hi2 : i < SL.length := by have := h.stl; omega
    exact ⟨SL[i], hk.cells (g := g) rfl i _ (List.getElem?_eq_getElem hi2), sl_other (h.str i _ _ (List.getElem?_eq_getElem hi2) (List.getElem?_eq_getElem hi)).sl hb hg⟩
theorem RGPo.yes {R : Option TS} {w w' : World} {e : Ending} {T : TS} {v : Value} (h : R = some T) (he : e = .returned (.tuple #[v, .bool true])) (hs : SpIn w' v T.states (movesOf T) true) (hb : Below w.heap.size w w') : RGPo R w e w' := by subst h; exact ⟨hb, v, he, hs⟩
theorem sp_grown (w : World) (b : Nat) (v0 v1 v2 : Value) : w.grownBy (((w.setCell ⟨b, 0, none⟩ v0).setCell ⟨b, 1, none⟩ v1).setCell ⟨b, 2, none⟩ v2) (some b) :=
  Lib.grownBy_setB (Lib.grownBy_setB (Lib.grownBy_setB (grown_refl w (some b)) 0 v0) 1 v1) 2 v2
/-- the loop over the nodes -/
def RoI (N : Nt) (M : List Int) (most : Nat) (R : Option TS) (w0 : World) (sb g : Nat) (iv tv : Value) (wr : World) : Prop :=
  ∃ (i : Nat) (T : TS) (vS vM : Value) (SL : List Value) (NL : List Rv), i + g = 20002 ∧ iv = .int .i64 (i : Int) ∧ RG w0 wr sb vS vM tv SL NL T.states (movesOf T) T.nodes ∧ TInv N M T ∧ i ≤ T.nodes.length ∧ R = contF N most i T
/-- the loop over the transitions at a node -/
def RiI (N : Nt) (M : List Int) (most : Nat) (R : Option TS) (w0 : World) (sb n i : Nat) (d : Nd) (g : Nat) (kv tv : Value) (wr : World) : Prop :=
  ∃ (k : Nat) (T : TS) (vS vM : Value) (SL : List Value) (NL : List Rv), k + g = n ∧ kv = .int .i64 (k : Int) ∧ RG w0 wr sb vS vM tv SL NL T.states (movesOf T) T.nodes ∧ TInv N M T ∧ T.nodes[i]? = some d ∧ R = contI N most i k T
set_option maxHeartbeats 25600000 in
set_option maxRecDepth 100000 in
theorem rgraph_any (N : Nt) (A : Option Addr) (n c : Nat) (Am : Option Addr) (m cm : Nat) (M : List Int) (most : Nat) (w : World) (h : TIn w A N.tr) (hn : N.tr.length = n) (hM : ZIn w Am M) (hm : M.length = m) (hm1 : m ≤ cm) (hm2 : cm ≤ 9223372036854775807) (hv : mkB N M = true) (hmo : 1 ≤ most) :
    Calls Tryd.prog 14 #[.agg #[.int .i64 N.pl, .slice A n c, .int .i64 N.src, .int .i64 N.snk], .slice Am m cm, .int .i64 (most : Int)] w (RGPo (growT N M most) w) := by
  obtain ⟨hs1, hs2, hs3⟩ := nt_small (mk_nt hv)
  have hml : (m : Int) = N.pl := by rw [← hm]; exact mk_len hv
  have HIn := Lib.hid (nt_inM (mk_nt hv) (m := m) hml)
  have HNums := Lib.hid (mk_nums hv)
  have HisM := Lib.hid (mkM hv)
  have HNet := Lib.hid (netOk_of (mk_nt hv) (m := M.length) (by rw [hm]; exact hml))
  have hq0 : addN most ⟨[], []⟩ ⟨M, M, -1, -1, 0, -1, false, false⟩ = some ⟨[⟨M, M, -1, -1, 0, -1, true, false⟩], [M]⟩ := by
    have h1 : addN most ⟨[], []⟩ ⟨M, M, -1, -1, 0, -1, false, false⟩ = if (0 : Nat) = most then none else some ⟨[⟨M, M, -1, -1, 0, -1, true, false⟩], [M]⟩ := rfl
    rw [h1, if_neg (by omega)]
  have hR := growT_cont (N := N) (m := M) (most := most)
  rw [hq0] at hR
  have HR := Lib.hid hR
  have HInv := Lib.hid (TInv.start (N := N) hq0)
  clear hq0 hR
  generalize growT N M most = R at *
  have HLn := Lib.hid hn
  have HLm := Lib.hid hm
  have hm0 : 0 < m := by omega
  have hm40 : m ≤ 40 := by omega
  have hn60 : n ≤ 60 := by omega
  have HBw := Lib.hid (two_boxes w (.cells #[.int .i64 N.pl, .slice A n c, .int .i64 N.src, .int .i64 N.snk] 24) (.cells #[.slice none 0 0, .slice none 0 0, .bool false] 31))
  have hnew := heap_alloc_new (w.alloc (.cells #[.int .i64 N.pl, .slice A n c, .int .i64 N.src, .int .i64 N.snk] 24)) (.cells #[.slice none 0 0, .slice none 0 0, .bool false] 31)
  rw [World.size_alloc] at hnew
  have HRb0 := Lib.hid (show SpB _ (w.heap.size + 1) (.slice none 0 0) (.slice none 0 0) false from hnew)
  have HNb := Lib.hid ((NB.new w N.pl A n c N.src N.snk).below (below_alloc _ (.cells #[.slice none 0 0, .slice none 0 0, .bool false] 31)))
  have HIt0 := Lib.hid (h.below HBw.out)
  have HZ0 := Lib.hid (hM.below HBw.out)
  have HSt := Lib.hid (rg_start ((w.alloc (.cells #[.int .i64 N.pl, .slice A n c, .int .i64 N.src, .int .i64 N.snk] 24)).alloc (.cells #[.slice none 0 0, .slice none 0 0, .bool false] 31)) (.slice Am m cm) M ⟨Am, m, cm, rfl, HZ0.out, hm, hm1, hm2⟩)
  have hs0 : ((w.alloc (.cells #[.int .i64 N.pl, .slice A n c, .int .i64 N.src, .int .i64 N.snk] 24)).alloc (.cells #[.slice none 0 0, .slice none 0 0, .bool false] 31)).heap.size = w.heap.size + 1 + 1 := by simp
  clear h hn hM hm hv hs1 hs2 hs3 hml hnew
  obtain ⟨i0, hmi0, hmi1, hmi2, hmi3⟩ := info_parts moveInfo
  have HMi := Lib.hid (And.intro hmi0 (And.intro hmi1 (And.intro hmi2 hmi3)))
  clear hmi0 hmi1 hmi2 hmi3
  obtain ⟨j0, hmi0, hmi1, hmi2, hmi3⟩ := info_parts rowInfo
  have HJ := Lib.hid (And.intro hmi0 (And.intro hmi1 (And.intro hmi2 hmi3)))
  clear hmi0 hmi1 hmi2 hmi3
  obtain ⟨k0, hmi0, hmi1, hmi2, hmi3⟩ := info_parts rnodeInfo
  have HRi := Lib.hid (And.intro hmi0 (And.intro hmi1 (And.intro hmi2 hmi3)))
  clear hmi0 hmi1 hmi2 hmi3
  go_enter Tryd.func14, Tryd.ntmps14
  go_wp2_with fail
  rw [hs0] at HSt
  generalize w.heap.size + 1 + 1 + 1 + 1 = nb0 at *
  generalize hsb : w.heap.size + 1 + 1 + 1 = sb at *
  generalize hxb : w.heap.size + 1 + 1 = xb at *
  generalize hrb : w.heap.size + 1 = rb at *
  generalize (w.alloc _).alloc _ = w0 at *
  generalize ((w0.alloc _).alloc _).alloc _ = wi at *
  have hrbs : rb ≠ sb := by omega
  have hrw : w.heap.size ≤ rb := by omega
  clear hsb hrb hxb
  subst hs0
  go_loopg [10, 9] (20002) (fun g iv tv wr => RoI N M most R w0 sb g iv tv wr)
  case atStart => exact ⟨0, _, _, _, _, _, by omega, rfl, HSt.out, HInv.out.1, Nat.zero_le _, HR.out⟩
  case round =>
    clear HSt HInv HR
    obtain ⟨i, T, vS, vM, SL, NL, hig, rfl, hG, hI, hil, hR⟩ := hrel
    have HG := Lib.hid hG
    have HI := Lib.hid hI
    have HR := Lib.hid hR
    have HK := Lib.hid hig
    have HL := Lib.hid hG.len
    have hnl : NL.length ≤ 20001 := by rw [hG.len]; exact hI.len
    have hil2 : i ≤ NL.length := by rw [hG.len]; exact hil
    have hnl0 : 0 < NL.length := by rw [hG.len]; exact (List.getElem?_eq_some_iff.1 hI.root).1
    obtain ⟨gN, cN, rfl, hgN, hcN, hRN⟩ := hG.rin hnl0
    clear hG hI hR hig hil
    by_cases hlt : i < NL.length
    · obtain ⟨d, hd⟩ : ∃ d, T.nodes[i]? = some d := ⟨_, List.getElem?_eq_getElem (by rw [← HL.out]; exact hlt)⟩
      obtain ⟨x, hx, hxd⟩ : ∃ x, NL[i]? = some x ∧ x.d = d := by
        have h1 := hd
        rw [← HG.out.ndm, List.getElem?_map] at h1
        obtain ⟨x, h2, h3⟩ := Option.map_eq_some_iff.1 h1
        exact ⟨x, h2, h3⟩
      have HD := Lib.hid hd
      have c3 := (hRN.2 i x hx).1 3 _ rfl
      rw [hxd] at c3
      clear hd hx hxd hRN
      cases hnw : d.nw with
      | false =>
        rw [hnw] at c3
        have HX := Lib.hid (contF_old (N := N) (most := most) HD.out (by omega) hnw)
        clear hnw
        go_wp2_with fail
        go_roundg (gk - 1)
        case measure => have := HK.out; omega
        case rel => exact ⟨i + 1, T, vS, vM, SL, NL, by have := HK.out; omega, by go_num, HG.out, HI.out, by rw [← HL.out]; omega, by rw [HR.out, HX.out]⟩
      | true =>
        rw [hnw] at c3
        have HX := Lib.hid (contF_new (N := N) (most := most) HD.out (by omega) hnw)
        rw [HX.out] at HR
        have HNw := Lib.hid hnw
        clear hnw HX
        have HFi := Lib.hid (HI.out.fine HNet.out HisM.out i d HD.out)
        go_wp2_with fail
        obtain ⟨go, rfl⟩ : ∃ go, go = gk := ⟨_, rfl⟩
        obtain ⟨wo, rfl⟩ : ∃ wo : World, wo = wr := ⟨_, rfl⟩
        go_loopg [11, 9] (n) (fun g kv tv wr => RiI N M most R w0 sb n i d g kv tv wr)
        case atStart => exact ⟨0, T, vS, vM, SL, NL, by omega, rfl, HG.out, HI.out, HD.out, HR.out⟩
        case round =>
          clear HG HI HR HL HD c3 hgN hcN
          obtain ⟨k, T, vS, vM, SL, NL, hkg, rfl, hG, hI, hd, hR⟩ := hrel
          have HG := Lib.hid hG
          have HI := Lib.hid hI
          have HR := Lib.hid hR
          have HKk := Lib.hid hkg
          have HD := Lib.hid hd
          have HL := Lib.hid hG.len
          have hnl : NL.length ≤ 20001 := by rw [hG.len]; exact hI.len
          have hin : i < NL.length := by rw [hG.len]; exact (List.getElem?_eq_some_iff.1 hd).1
          have hkn : k ≤ n := by omega
          obtain ⟨gN, cN, rfl, hgN, hcN, hRN⟩ := hG.rin (by omega)
          obtain ⟨x, hx, hxd⟩ : ∃ x, NL[i]? = some x ∧ x.d = d := by
            have h1 := hd
            rw [← hG.ndm, List.getElem?_map] at h1
            obtain ⟨x, h2, h3⟩ := Option.map_eq_some_iff.1 h1
            exact ⟨x, h2, h3⟩
          have HXi := Lib.hid (show ∃ x, NL[i]? = some x ∧ x.d = d from ⟨x, hx, hxd⟩)
          have HRN := Lib.hid hRN
          clear hG hI hR hkg hd
          obtain ⟨b0, b1, b2, b3⟩ := (HNb.out.below HG.out.bel).cells
          by_cases hlk : k < n
          · have hlk' : k < N.tr.length := by rw [HLn.out]; exact hlk
            have HTk := Lib.hid (List.getElem?_eq_getElem hlk')
            have HStep := Lib.hid (contI_step (N := N) (most := most) (i := i) (k := k) (T := T) hlk')
            have HInK := Lib.hid (HIn.out _ (List.getElem_mem hlk'))
            have HOkK := Lib.hid (HNet.out k _ HTk.out)
            rw [HLm.out] at HOkK
            obtain ⟨hc, Ax, nx, cx, hvx, zx, hx1, hx2, hx3⟩ := hRN.2 i x hx
            rw [hxd] at zx hx1
            have hlx : d.ms.length = m := by rw [HFi.out.lm]; exact HLm.out
            obtain rfl : nx = m := by rw [← hx1, hlx]
            have c0 := hc 0 _ rfl
            rw [hvx] at c0
            have c0' : wr.cell? ⟨gN, i * 4, none⟩ = some (.slice Ax nx cx) := c0
            have HZx := Lib.hid zx
            have HLx := Lib.hid hlx
            clear hc c0 hvx zx hx1 hx2 hx3 hx hxd hRN hlx
            have hin0 : (0 : Int) ≤ (i : Int) := by omega
            have hin1 : (i : Int) < (NL.length : Int) := by omega
            have HIt := Lib.hid (HIt0.out.below HG.out.bel)
            have HCan := Lib.hid (fun dd os => can24_any N A n c Ax nx cx d.ms k hlk' _ (HIt.out.below (below_regrown wr dd os)) HLn.out (HZx.out.below (below_regrown wr dd os)) HLx.out HInK.out.1)
            go_wp2_with fail
            have a0 := fun dd os => cell_regrown b0 dd os
            have a1 := fun dd os => cell_regrown b1 dd os
            have a2 := fun dd os => cell_regrown b2 dd os
            have a3 := fun dd os => cell_regrown b3 dd os
            have a4 := fun dd os => cell_regrown c0' dd os
            cases hcan : canT N.tr[k] d.ms with
            | false =>
              rw [hcan] at HCan
              have HX := Lib.hid (stepK_no (most := most) HD.out HTk.out hcan)
              rw [HX.out] at HStep
              refine wp_region_quiet_below (by kernel_rfl) (by kernel_rfl) ?_
              repeat (quiet_step (exact Calls.regrown_of (HCan.out _ _)))
              refine wpQuiet_nil ?_
              intro _ hw'
              obtain ⟨⟨dq, osq⟩, hw''⟩ := hw'
              subst hw''
              clear a0 a1 a2 a3 a4 HCan b0 b1 b2 b3 c0'
              have HGq := Lib.hid (HG.out.below (below_regrown wr dq osq))
              go_wp2_with fail
              go_roundg (gk - 1)
              case measure => have := HKk.out; omega
              case rel => exact ⟨k + 1, T, vS, vM, SL, NL, by have := HKk.out; omega, by go_num, HGq.out, HI.out, HD.out, by rw [HR.out, HStep.out]⟩
            | true =>
              rw [hcan] at HCan
              refine wp_region_quiet_below (by kernel_rfl) (by kernel_rfl) ?_
              repeat (quiet_step (exact Calls.regrown_of (HCan.out _ _)))
              refine wpQuiet_nil ?_
              intro _ hw'
              obtain ⟨⟨dq, osq⟩, hw''⟩ := hw'
              subst hw''
              have hbq := below_regrown wr dq osq
              have HG2 := Lib.hid (HG.out.below hbq)
              have HZx2 := Lib.hid (HZx.out.below hbq)
              have HIt2 := Lib.hid (HIt.out.below hbq)
              have c2 := cell_stays hbq c0'
              clear a0 a1 a2 a3 a4 HCan b0 b1 b2 b3 c0' hbq HG HZx HIt
              generalize Sort.grow (redrawn wr dq) osq = w2 at *
              have hbd : Below w2.heap.size w2 w2.drew := (Below.refl _ _).drew
              have HGd := Lib.hid (HG2.out.below hbd)
              have HZd := Lib.hid (HZx2.out.below hbd)
              have HItd := Lib.hid (HIt2.out.below hbd)
              have HNd := Lib.hid (HNb.out.below HGd.out.bel)
              have hS0 := And.intro HNd.out.cells.1 (And.intro HNd.out.cells.2.1 (And.intro HNd.out.cells.2.2.1 (And.intro HNd.out.cells.2.2.2 (cell_stays hbd c2))))
              have HFr := Lib.hid (rfire_any N A n c Ax nx cx d.ms k hlk' _ HItd.out HLn.out HZd.out HLx.out hm0 (by omega) HOkK.out HFi.out.bndM HFi.out.le)
              clear hbd HG2 HZx2 HIt2 c2
              go_wp2_with fail
              cases hbig : bigM (fireT N.tr[k] d.ms) with
              | true =>
                have HX := Lib.hid (stepK_big (most := most) HD.out HTk.out hcan hbig)
                rw [HX.out] at HStep
                have HFb := Lib.hid (rfire_big HFr.out hbig)
                clear HFr hcan hbig
                refine wp_region_held_drew (S := fun w' => w'.cell? ⟨w.heap.size, 0, none⟩ = some (.int .i64 N.pl) ∧ w'.cell? ⟨w.heap.size, 1, none⟩ = some (.slice A n c) ∧ w'.cell? ⟨w.heap.size, 2, none⟩ = some (.int .i64 N.src) ∧ w'.cell? ⟨w.heap.size, 3, none⟩ = some (.int .i64 N.snk) ∧ w'.cell? ⟨gN, i * 4, none⟩ = some (.slice Ax nx cx)) (by kernel_rfl) hS0 (fun hHeld => ?_)
                clear hS0
                generalize w2.drew = wd at *
                have hS0 := hHeld
                refine wpAnyH_take (i := 0) (v := ?_) rfl (by kernel_rfl) (by kernel_rfl) (by kernel_rfl) (fun _ _ _ h => h) (Or.inl ⟨by rfl, ?_⟩) (by assumption) ?_
                rotate_left
                · intro w hSw; (try dsimp only at hSw); go_simp; try (with_reducible rfl)
                try go_simp
                refine wpAnyH_take (i := 1) (v := ?_) rfl (by kernel_rfl) (by kernel_rfl) (by kernel_rfl) (fun _ _ _ h => h) (Or.inl ⟨by rfl, ?_⟩) (by assumption) ?_
                rotate_left
                · intro w hSw; (try dsimp only at hSw); go_simp; try (with_reducible rfl)
                try go_simp
                refine wpAnyH_take (i := 2) (v := ?_) rfl (by kernel_rfl) (by kernel_rfl) (by kernel_rfl) (fun _ _ _ h => h) (Or.inl ⟨by rfl, ?_⟩) (by assumption) ?_
                rotate_left
                · intro w hSw; (try dsimp only at hSw); go_simp; try (with_reducible rfl)
                try go_simp
                refine wpAnyH_take (i := 3) (v := ?_) rfl (by kernel_rfl) (by kernel_rfl) (by kernel_rfl) (fun _ _ _ h => h) (Or.inl ⟨by rfl, ?_⟩) (by assumption) ?_
                rotate_left
                · intro w hSw; (try dsimp only at hSw); go_simp; try (with_reducible rfl)
                try go_simp
                refine wpAnyH_take (i := 4) (v := ?_) rfl (by kernel_rfl) (by kernel_rfl) (by kernel_rfl) (fun _ _ _ h => h) (Or.inl ⟨by rfl, ?_⟩) (by assumption) ?_
                rotate_left
                · intro w hSw; (try dsimp only at hSw); go_simp; try (with_reducible rfl)
                try go_simp
                refine wpAnyH_take (i := 5) (v := ?_) rfl (by kernel_rfl) (by kernel_rfl) (by kernel_rfl) (fun _ _ _ h => h) (Or.inl ⟨by rfl, ?_⟩) (by assumption) ?_
                rotate_left
                · intro w hSw; (try dsimp only at hSw); go_simp; try (with_reducible rfl)
                try go_simp
                refine wpAnyH_take (i := 6) (v := ?_) rfl (by kernel_rfl) (by kernel_rfl) (by kernel_rfl) (fun _ _ _ h => h) (Or.inl ⟨by rfl, ?_⟩) (by assumption) ?_
                rotate_left
                · intro w hSw; (try dsimp only at hSw); go_simp; try (with_reducible rfl)
                try go_simp
                refine wpAnyH_ready (rs := [7]) (by kernel_rfl) (by simp) ?_
                refine AllReadyH.cons rfl (fun K hK => ?_) AllReadyH.nil
                go_simp
                ((refine HFb.out.mono ?_); rintro e w4 ⟨rfl, hb4⟩)
                refine hK.out _ _ (⟨cell_stays hb4 hS0.1, cell_stays hb4 hS0.2.1, cell_stays hb4 hS0.2.2.1, cell_stays hb4 hS0.2.2.2.1, cell_stays hb4 hS0.2.2.2.2⟩) (fun hHeld => ?_)
                clear hK K
                try go_simp
                refine wpAnyH_take (i := 8) (v := ?_) rfl (by kernel_rfl) (by kernel_rfl) (by kernel_rfl) (fun _ _ _ h => h) (Or.inl ⟨by rfl, ?_⟩) (by assumption) ?_
                rotate_left
                · intro w hSw; (try dsimp only at hSw); go_simp; try (with_reducible rfl)
                try go_simp
                refine wpAnyH_take (i := 9) (v := ?_) rfl (by kernel_rfl) (by kernel_rfl) (by kernel_rfl) (fun _ _ _ h => h) (Or.inl ⟨by rfl, ?_⟩) (by assumption) ?_
                rotate_left
                · intro w hSw; (try dsimp only at hSw); go_simp; try (with_reducible rfl)
                try go_simp
                refine wpAnyH_take (i := 10) (v := ?_) rfl (by kernel_rfl) (by kernel_rfl) (by kernel_rfl) (fun _ _ _ h => h) (Or.inl ⟨by rfl, ?_⟩) (by assumption) ?_
                rotate_left
                · intro w hSw; (try dsimp only at hSw); go_simp; try (with_reducible rfl)
                try go_simp
                refine wpAnyH_take (i := 11) (v := ?_) rfl (by kernel_rfl) (by kernel_rfl) (by kernel_rfl) (fun _ _ _ h => h) (Or.inl ⟨by rfl, ?_⟩) (by assumption) ?_
                rotate_left
                · intro w hSw; (try dsimp only at hSw); go_simp; try (with_reducible rfl)
                try go_simp
                refine wpAnyH_take (i := 12) (v := ?_) rfl (by kernel_rfl) (by kernel_rfl) (by kernel_rfl) (fun _ _ _ h => h) (Or.inl ⟨by rfl, ?_⟩) (by assumption) ?_
                rotate_left
                · intro w hSw; (try dsimp only at hSw); go_simp; try (with_reducible rfl)
                try go_simp
                refine wpAnyH_done (by kernel_rfl) ?_ _
                have HG4 := Lib.hid (HGd.out.below hb4)
                have HRb4 := Lib.hid (HRb0.out.below HG4.out.bel)
                clear hHeld hS0 HGd HZd hb4
                obtain ⟨r0, r1, r2⟩ := HRb4.out.cells
                have rf0 := HRb4.out.soft 0
                have rf1 := HRb4.out.soft 1
                have rf2 := HRb4.out.soft 2
                have HRe := Lib.hid (((HRb4.out.set0 (.slice none 0 0)).set1 (.slice none 0 0)).set2 false)
                have HBe := Lib.hid (bset3 (below_then HBw.out HG4.out.bel) hrw (.slice none 0 0) (.slice none 0 0) (.bool false))
                go_wp2_with fail
                generalize ((w4.setCell ⟨rb, 0, none⟩ _).setCell ⟨rb, 1, none⟩ _).setCell ⟨rb, 2, none⟩ _ = we at *
                obtain ⟨d0, d1, d2⟩ := HRe.out.cells
                exact bodyPost_ret (v := .tuple #[.agg #[.slice none 0 0, .slice none 0 0, .bool false], .bool false]) (by simp [results, Tryd.results14, go_sem, d0, d1, d2]) rfl (RGPo.no (by rw [HR.out, HStep.out]) rfl HBe.out)
              | false =>
                have HFb := Lib.hid (rfire_ok HFr.out hbig)
                clear HFr
                refine wp_region_held_drew (S := fun w' => w'.cell? ⟨w.heap.size, 0, none⟩ = some (.int .i64 N.pl) ∧ w'.cell? ⟨w.heap.size, 1, none⟩ = some (.slice A n c) ∧ w'.cell? ⟨w.heap.size, 2, none⟩ = some (.int .i64 N.src) ∧ w'.cell? ⟨w.heap.size, 3, none⟩ = some (.int .i64 N.snk) ∧ w'.cell? ⟨gN, i * 4, none⟩ = some (.slice Ax nx cx)) (by kernel_rfl) hS0 (fun hHeld => ?_)
                clear hS0
                generalize w2.drew = wd at *
                have hS0 := hHeld
                refine wpAnyH_take (i := 0) (v := ?_) rfl (by kernel_rfl) (by kernel_rfl) (by kernel_rfl) (fun _ _ _ h => h) (Or.inl ⟨by rfl, ?_⟩) (by assumption) ?_
                rotate_left
                · intro w hSw; (try dsimp only at hSw); go_simp; try (with_reducible rfl)
                try go_simp
                refine wpAnyH_take (i := 1) (v := ?_) rfl (by kernel_rfl) (by kernel_rfl) (by kernel_rfl) (fun _ _ _ h => h) (Or.inl ⟨by rfl, ?_⟩) (by assumption) ?_
                rotate_left
                · intro w hSw; (try dsimp only at hSw); go_simp; try (with_reducible rfl)
                try go_simp
                refine wpAnyH_take (i := 2) (v := ?_) rfl (by kernel_rfl) (by kernel_rfl) (by kernel_rfl) (fun _ _ _ h => h) (Or.inl ⟨by rfl, ?_⟩) (by assumption) ?_
                rotate_left
                · intro w hSw; (try dsimp only at hSw); go_simp; try (with_reducible rfl)
                try go_simp
                refine wpAnyH_take (i := 3) (v := ?_) rfl (by kernel_rfl) (by kernel_rfl) (by kernel_rfl) (fun _ _ _ h => h) (Or.inl ⟨by rfl, ?_⟩) (by assumption) ?_
                rotate_left
                · intro w hSw; (try dsimp only at hSw); go_simp; try (with_reducible rfl)
                try go_simp
                refine wpAnyH_take (i := 4) (v := ?_) rfl (by kernel_rfl) (by kernel_rfl) (by kernel_rfl) (fun _ _ _ h => h) (Or.inl ⟨by rfl, ?_⟩) (by assumption) ?_
                rotate_left
                · intro w hSw; (try dsimp only at hSw); go_simp; try (with_reducible rfl)
                try go_simp
                refine wpAnyH_take (i := 5) (v := ?_) rfl (by kernel_rfl) (by kernel_rfl) (by kernel_rfl) (fun _ _ _ h => h) (Or.inl ⟨by rfl, ?_⟩) (by assumption) ?_
                rotate_left
                · intro w hSw; (try dsimp only at hSw); go_simp; try (with_reducible rfl)
                try go_simp
                refine wpAnyH_take (i := 6) (v := ?_) rfl (by kernel_rfl) (by kernel_rfl) (by kernel_rfl) (fun _ _ _ h => h) (Or.inl ⟨by rfl, ?_⟩) (by assumption) ?_
                rotate_left
                · intro w hSw; (try dsimp only at hSw); go_simp; try (with_reducible rfl)
                try go_simp
                refine wpAnyH_ready (rs := [7]) (by kernel_rfl) (by simp) ?_
                refine AllReadyH.cons rfl (fun K hK => ?_) AllReadyH.nil
                go_simp
                ((refine HFb.out.mono ?_); rintro e w4 ⟨v4, rfl, hS4⟩; obtain ⟨A4, c4, rfl⟩ := hS4.slice)
                refine hK.out _ _ (⟨cell_stays hS4.2 hS0.1, cell_stays hS4.2 hS0.2.1, cell_stays hS4.2 hS0.2.2.1, cell_stays hS4.2 hS0.2.2.2.1, cell_stays hS4.2 hS0.2.2.2.2⟩) (fun hHeld => ?_)
                clear hK K
                try go_simp
                refine wpAnyH_take (i := 8) (v := ?_) rfl (by kernel_rfl) (by kernel_rfl) (by kernel_rfl) (fun _ _ _ h => h) (Or.inl ⟨by rfl, ?_⟩) (by assumption) ?_
                rotate_left
                · intro w hSw; (try dsimp only at hSw); go_simp; try (with_reducible rfl)
                try go_simp
                refine wpAnyH_take (i := 9) (v := ?_) rfl (by kernel_rfl) (by kernel_rfl) (by kernel_rfl) (fun _ _ _ h => h) (Or.inl ⟨by rfl, ?_⟩) (by assumption) ?_
                rotate_left
                · intro w hSw; (try dsimp only at hSw); go_simp; try (with_reducible rfl)
                try go_simp
                refine wpAnyH_take (i := 10) (v := ?_) rfl (by kernel_rfl) (by kernel_rfl) (by kernel_rfl) (fun _ _ _ h => h) (Or.inl ⟨by rfl, ?_⟩) (by assumption) ?_
                rotate_left
                · intro w hSw; (try dsimp only at hSw); go_simp; try (with_reducible rfl)
                try go_simp
                refine wpAnyH_take (i := 11) (v := ?_) rfl (by kernel_rfl) (by kernel_rfl) (by kernel_rfl) (fun _ _ _ h => h) (Or.inl ⟨by rfl, ?_⟩) (by assumption) ?_
                rotate_left
                · intro w hSw; (try dsimp only at hSw); go_simp; try (with_reducible rfl)
                try go_simp
                refine wpAnyH_take (i := 12) (v := ?_) rfl (by kernel_rfl) (by kernel_rfl) (by kernel_rfl) (fun _ _ _ h => h) (Or.inl ⟨by rfl, ?_⟩) (by assumption) ?_
                rotate_left
                · intro w hSw; (try dsimp only at hSw); go_simp; try (with_reducible rfl)
                try go_simp
                refine wpAnyH_done (by kernel_rfl) ?_ _
                have hpl0 : (fireT N.tr[k] d.ms).length = nx := by rw [fireT_len]; exact HLx.out
                have HAddK := Lib.hid (fun u hu => stepK_add (u := u) (most := most) HD.out HTk.out hcan hbig hu)
                have HPut := Lib.hid (fun (u : Up) (hu : upAll T.nodes (i + 1) i ⟨fireT N.tr[k] d.ms, -1, false⟩ = u) (T' : TS) (hq : addN most T ⟨fireT N.tr[k] d.ms, u.y, i, k, 0, u.gr, false, u.om⟩ = some T') => And.intro (HI.out.put (addN_put hq) HD.out HNw.out HTk.out hcan rfl hbig (by rw [hu]) rfl rfl) (addN_put hq).pre)
                have HUl := Lib.hid (upAll_get T.nodes M.length (fun j e he => (HI.out.fine HNet.out HisM.out j e he).lm) (i + 1) i ⟨fireT N.tr[k] d.ms, -1, false⟩ (by rw [HLm.out]; exact hpl0)).1
                have HG4 := Lib.hid (HGd.out.below hS4.2)
                have HP4 := Lib.hid hS4
                clear hHeld hS0 HGd HZd hS4 hcan hbig HFb
                generalize fireT N.tr[k] d.ms = pn at *
                have HPl := Lib.hid hpl0
                rw [hpl0] at HP4 ⊢
                obtain ⟨Ap, cp, hep, hzp, _, _⟩ := HP4.out.zin
                have hzp4 : ZIn w4 A4 pn := by rw [hpl0] at hep; cases hep; exact hzp
                clear hep hzp hpl0 HP4
                obtain ⟨Amv, cmv, hvm⟩ := HG4.out.mvs.slice
                subst hvm
                rw [movesOf_len] at HG4
                obtain ⟨s0, s1, s2⟩ := HG4.out.blk.cells
                by_cases hful : T.nodes.length = 20001
                · have q1 : (((T.nodes.length - 1 : Nat) : Int) == 20000) = true := by rw [hful]; rfl
                  have HStp := Lib.hid (HAddK.out _ rfl)
                  rw [addN_full (by omega)] at HStp
                  rw [HStp.out] at HStep
                  have HRb4 := Lib.hid (HRb0.out.below HG4.out.bel)
                  obtain ⟨r0, r1, r2⟩ := HRb4.out.cells
                  have rf0 := HRb4.out.soft 0
                  have rf1 := HRb4.out.soft 1
                  have rf2 := HRb4.out.soft 2
                  have HRe := Lib.hid (((HRb4.out.set0 (.slice none 0 0)).set1 (.slice none 0 0)).set2 false)
                  have HBe := Lib.hid (bset3 (below_then HBw.out HG4.out.bel) hrw (.slice none 0 0) (.slice none 0 0) (.bool false))
                  clear HAddK HPut HUl HG4
                  go_wp2_with fail
                  generalize ((w4.setCell ⟨rb, 0, none⟩ _).setCell ⟨rb, 1, none⟩ _).setCell ⟨rb, 2, none⟩ _ = we at *
                  obtain ⟨d0, d1, d2⟩ := HRe.out.cells
                  exact bodyPost_ret (v := .tuple #[.agg #[.slice none 0 0, .slice none 0 0, .bool false], .bool false]) (by simp [results, Tryd.results14, go_sem, d0, d1, d2]) rfl (RGPo.no (by rw [HR.out, HStep.out]) rfl HBe.out)
                · have q1 : (((T.nodes.length - 1 : Nat) : Int) == 20000) = false := by rw [beq_eq_false_iff_ne]; have := HL.out; omega
                  have hroom : ¬ 20000 < T.nodes.length := by have := HL.out; omega
                  obtain ⟨gN', cN', hvN', _, _, hRN4⟩ := HG4.out.rin (by omega)
                  cases hvN'
                  have HRa := Lib.hid (raise_any N M T NL gN NL.length cN i A4 nx c4 pn (-1) false w4 hRN4 rfl HG4.out.ndm HI.out (fun e he => by
                    obtain ⟨j, hj, rfl⟩ := List.getElem_of_mem he
                    rw [(HI.out.fine HNet.out HisM.out j _ (List.getElem?_eq_getElem hj)).lm]; exact HLm.out) (by omega) hzp4 HPl.out hm0 (by omega) (by omega))
                  clear hRN4 hzp4
                  go_wp2_with fail
                  ((with_reducible refine HRa.out.mono ?_); rintro e w5 ⟨vy, rfl, hS5⟩)
                  have HUy := Lib.hid (rfl : upAll T.nodes (i + 1) i ⟨pn, -1, false⟩ = upAll T.nodes (i + 1) i ⟨pn, -1, false⟩)
                  generalize hug : upAll T.nodes (i + 1) i ⟨pn, -1, false⟩ = U at *
                  obtain ⟨y, gr, om⟩ := U
                  have HStp := Lib.hid (HAddK.out _ rfl)
                  have HPt := Lib.hid (HPut.out _ rfl)
                  simp only at HStp HPt hS5 HUl
                  clear HAddK HPut HUy hug HRa s0 s1 s2
                  have hyl : y.length = nx := by rw [HUl.out]; exact HLm.out
                  obtain ⟨yg, yc, rfl, hy1, hy2⟩ := hS5.row (by rw [hyl]; exact hm0)
                  rw [hyl] at hS5 ⊢
                  have HG5 := Lib.hid (HG4.out.below hS5.2)
                  have HN5 := Lib.hid (NS.up HG4.out.bel hS5)
                  have HZy := Lib.hid (show ZIn w5 (some ⟨yg, 0, none⟩) y by obtain ⟨A', c', e, hz, _⟩ := hS5.zin; cases e; exact hz)
                  have HYl := Lib.hid hyl
                  clear hS5 HG4 hyl
                  obtain ⟨As, cs, hvs, hls, _, _⟩ := HG5.out.lin
                  subst hvs
                  have HStl := Lib.hid HG5.out.stl
                  have HFd := Lib.hid (find_any As SL.length cs T.states (some ⟨yg, 0, none⟩) nx yc y w5 hls HStl.out.symm (by have := HStl.out; have := HI.out.cnt; have := HL.out; omega) HZy.out HYl.out)
                  clear hls
                  obtain ⟨s0, s1, s2⟩ := HG5.out.blk.cells
                  have hsl : SL.length ≤ 20001 := by have := HStl.out; have := HI.out.cnt; have := HL.out; omega
                  by_cases hmem : y ∈ T.states
                  · obtain ⟨hq, hfi⟩ := addN_old (most := most) (x := ⟨pn, y, (i : Int), (k : Int), 0, gr, false, om⟩) hmem hroom
                    rw [hq] at HStp
                    have HPq := Lib.hid (HPt.out _ hq)
                    rw [HStp.out] at HStep
                    simp only at hfi
                    rw [hfi] at HFd
                    have hfr : ¬ ((stIdx T y : Nat) : Int) < 0 := by omega
                    clear hq hfi HPt
                    go_wp2_with fail
                    ((with_reducible refine HFd.out.mono ?_); rintro e w6 ⟨rfl, hb6⟩)
                    have HG6 := Lib.hid (HG5.out.below hb6)
                    have HN6 := Lib.hid (HN5.out.below hb6)
                    clear hb6 HG5 HN5 HFd HZy s0 s1 s2
                    obtain ⟨w5', hw5⟩ : ∃ w5', w5' = w6 := ⟨_, rfl⟩
                    have HG5 := Lib.hid HG6.out
                    have HN5 := Lib.hid HN6.out
                    clear HG6 HN6 hw5
                    obtain ⟨w4', hw4⟩ : ∃ w4', w4' = w5 := ⟨_, rfl⟩
                    go_wp2_with fail
                    have hbd : Below w6.heap.size w6 w6.drew := (Below.refl _ _).drew
                    have HGd := Lib.hid (HG5.out.below hbd)
                    have HNd := Lib.hid (HN5.out.below hbd)
                    clear hbd HG5 HN5
                    obtain ⟨gN', cN', hvN', hgN', hcN', hRN'⟩ := HGd.out.rin (by omega)
                    cases hvN'
                    obtain ⟨x5, hx5, hxd5⟩ := HXi.out
                    have c5 := (hRN'.2 i x5 hx5).1 1 _ rfl
                    rw [hxd5] at c5
                    have hS0 := And.intro HGd.out.blk.cells.2.1 c5
                    refine wp_region_e_drew 13 (S := fun w' => w'.cell? ⟨sb, 1, none⟩ = some (.slice Amv (T.nodes.length - 1) cmv) ∧ w'.cell? ⟨gN, i * 4 + 1, none⟩ = some (.int .i64 (d.st : Int))) (by kernel_rfl) hS0 (fun hHeld => ?_)
                    clear hS0 c5
                    generalize w6.drew = wd at *
                    refine wpAnyE_take (i := 0) (v := ?_) [1, 11, 13] rfl (by kernel_rfl) (by kernel_rfl) (by kernel_rfl) (by kernel_rfl) (by kernel_rfl) (by kernel_rfl) (fun _ _ _ h => h) (Or.inl ⟨by rfl, ?_⟩) (by assumption) ?_
                    rotate_left
                    · intro w hSw; (try dsimp only at hSw); go_simp; try (with_reducible rfl)
                    try go_simp
                    refine wpAnyE_take (i := 1) (v := ?_) [11, 13] rfl (by kernel_rfl) (by kernel_rfl) (by kernel_rfl) (by kernel_rfl) (by kernel_rfl) (by kernel_rfl) (fun _ _ _ h => h) (Or.inl ⟨by rfl, ?_⟩) (by assumption) ?_
                    rotate_left
                    · intro w hSw; (try dsimp only at hSw); go_simp; try (with_reducible rfl)
                    try go_simp
                    refine wpAnyE_take (i := 2) (v := ?_) [4, 5, 6, 9, 10, 11, 13] rfl (by kernel_rfl) (by kernel_rfl) (by kernel_rfl) (by kernel_rfl) (by kernel_rfl) (by kernel_rfl) (fun _ _ _ h => h) (Or.inl ⟨by rfl, ?_⟩) (by assumption) ?_
                    rotate_left
                    · intro w hSw; (try dsimp only at hSw); go_simp; try (with_reducible rfl)
                    try go_simp
                    refine wpAnyE_take (i := 3) (v := ?_) [4, 5, 6, 9, 10, 11, 13] rfl (by kernel_rfl) (by kernel_rfl) (by kernel_rfl) (by kernel_rfl) (by kernel_rfl) (by kernel_rfl) (fun _ _ _ h => h) (Or.inl ⟨by rfl, ?_⟩) (by assumption) ?_
                    rotate_left
                    · intro w hSw; (try dsimp only at hSw); go_simp; try (with_reducible rfl)
                    try go_simp
                    refine wpAnyE_take (i := 4) (v := ?_) [5, 6, 9, 10, 11, 13] rfl (by kernel_rfl) (by kernel_rfl) (by kernel_rfl) (by kernel_rfl) (by kernel_rfl) (by kernel_rfl) (fun _ _ _ h => h) (Or.inl ⟨by rfl, ?_⟩) (by assumption) ?_
                    rotate_left
                    · intro w hSw; (try dsimp only at hSw); go_simp; try (with_reducible rfl)
                    try go_simp
                    refine wpAnyE_take (i := 5) (v := ?_) [6, 9, 10, 11, 13] rfl (by kernel_rfl) (by kernel_rfl) (by kernel_rfl) (by kernel_rfl) (by kernel_rfl) (by kernel_rfl) (fun _ _ _ h => h) (Or.inl ⟨by rfl, ?_⟩) (by assumption) ?_
                    rotate_left
                    · intro w hSw; (try dsimp only at hSw); go_simp; try (with_reducible rfl)
                    try go_simp
                    refine wpAnyE_take (i := 6) (v := ?_) [9, 10, 11, 13] rfl (by kernel_rfl) (by kernel_rfl) (by kernel_rfl) (by kernel_rfl) (by kernel_rfl) (by kernel_rfl) (fun _ _ _ h => h) (Or.inl ⟨by rfl, ?_⟩) (by assumption) ?_
                    rotate_left
                    · intro w hSw; (try dsimp only at hSw); go_simp; try (with_reducible rfl)
                    try go_simp
                    refine wpAnyE_take (i := 7) (v := ?_) [9, 10, 11, 13] rfl (by kernel_rfl) (by kernel_rfl) (by kernel_rfl) (by kernel_rfl) (by kernel_rfl) (by kernel_rfl) (fun _ _ _ h => h) (Or.inl ⟨by rfl, ?_⟩) (by assumption) ?_
                    rotate_left
                    · intro w hSw; (try dsimp only at hSw); go_simp; try (with_reducible rfl)
                    try go_simp
                    refine wpAnyE_take (i := 8) (v := ?_) [9, 10, 11, 13] rfl (by kernel_rfl) (by kernel_rfl) (by kernel_rfl) (by kernel_rfl) (by kernel_rfl) (by kernel_rfl) (fun _ _ _ h => h) (Or.inl ⟨by rfl, ?_⟩) (by assumption) ?_
                    rotate_left
                    · intro w hSw; (try dsimp only at hSw); go_simp; try (with_reducible rfl)
                    try go_simp
                    refine wpAnyE_take (i := 9) (v := ?_) [10, 11, 13] rfl (by kernel_rfl) (by kernel_rfl) (by kernel_rfl) (by kernel_rfl) (by kernel_rfl) (by kernel_rfl) (fun _ _ _ h => h) (Or.inl ⟨by rfl, ?_⟩) (by assumption) ?_
                    rotate_left
                    · intro w hSw; (try dsimp only at hSw); go_simp; try (with_reducible rfl)
                    try go_simp
                    have hS0 := hHeld
                    refine wpAnyE_one (i := 10) (by kernel_rfl) rfl (fun K hK => ?_)
                    go_simp
                    skip
                    refine hK.out _ _ (fun _ => ⟨cell_stays (below_alloc _ _) hS0.1, cell_stays (below_alloc _ _) hS0.2⟩) (fun hH => ?_)
                    have hHeld := hH (by decide)
                    clear hH hK K
                    try go_simp
                    refine wpAnyE_one (i := 11) (by kernel_rfl) rfl (fun K hK => ?_)
                    have hq1 := HGd.out.mvs.1
                    rw [movesOf_len] at hq1
                    refine step_append_own rfl _ _ 29 rfl w0.heap.size 72 i0 (.agg #[.int .i64 0, .int .i64 0, .int .i64 0]) 3 24 Tryd.underlying29 HMi.out.1 HMi.out.2.1 HMi.out.2.2.1 HMi.out.2.2.2 rfl (by decide) (.slice Amv (T.nodes.length - 1) cmv) _ _ rfl (hq1.alloc _) ⟨wd.heap.size, 0, none⟩ 1 1 [.int .i64 (d.st : Int), .int .i64 ((stIdx T y : Nat) : Int), .int .i64 (k : Int)] rfl rfl ?c1 ?c2 ?c3 ?c4 ?c5 ?_
                    case c1 => exact news_blk (heap_alloc_new wd (.cells #[.int .i64 (d.st : Int), .int .i64 ((stIdx T y : Nat) : Int), .int .i64 (k : Int)] 72))
                    case c2 => intro u hu; simp at hu; rcases hu with rfl | rfl | rfl <;> rfl
                    case c3 => unfold maxLen; omega
                    case c4 => omega
                    case c5 => have := HGd.out.bel.size; simp; omega
                    intro v6 w6 hown6 hgrow6
                    obtain ⟨A6, c6, rfl, _⟩ := row_slice hown6
                    have hal := below_alloc wd (.cells #[.int .i64 (d.st : Int), .int .i64 ((stIdx T y : Nat) : Int), .int .i64 (k : Int)] 72)
                    have hsp6 := (HGd.out.blk.below hal).grown hgrow6 (row_block (hq1.alloc _) (HGd.out.blk.below hal) (by decide))
                    have HG6 := Lib.hid (HGd.out.move (x := ⟨(d.st : Int), ((stIdx T y : Nat) : Int), (k : Int)⟩) (by rw [movesOf_len]; exact hown6) hgrow6)
                    have x1 := hsp6.cells.2.1
                    have xf := hsp6.soft 1
                    have c56 : w6.cell? ⟨gN, i * 4 + 1, none⟩ = some (.int .i64 (d.st : Int)) := hgrow6.cell (cell_stays hal hS0.2) (fun e => by
                      obtain ⟨cur, hk1⟩ := own_kind HGd.out.nds rfl
                      exact row_block (hq1.alloc _) (by rw [hal.block gN (Array.getElem?_eq_some_iff.1 hk1).1]; exact hk1) (by decide) e)
                    refine hK.out _ _ (fun _ => ⟨x1, c56⟩) (fun hH => ?_)
                    have hHeld := hH (by decide)
                    clear hH hK K
                    try go_simp
                    refine wpAnyE_take (i := 12) (v := ?_) [13] rfl (by kernel_rfl) (by kernel_rfl) (by kernel_rfl) (by kernel_rfl) (by kernel_rfl) (by kernel_rfl) (fun _ _ _ h => h) (Or.inl ⟨by rfl, ?_⟩) (by assumption) ?_
                    rotate_left
                    · intro w hSw; (try dsimp only at hSw); go_simp; try (with_reducible rfl)
                    try go_simp
                    refine wpAnyE_one (i := 13) (by kernel_rfl) rfl (fun K hK => ?_)
                    go_simp
                    skip
                    refine hK.out _ _ (fun h => absurd rfl h) (fun _ => ?_)
                    clear hK K
                    try go_simp
                    refine wpAnyE_done (by kernel_rfl) ?_ _
                    have HG7 := Lib.hid HG6.out.1
                    have HN7 := Lib.hid (HG6.out.2 _ _ HNd.out)
                    clear hHeld hS0 hq1 hown6 hgrow6 hal hsp6 x1 xf c56 HGd HNd HG6 hRN'
                    generalize w6.setCell ⟨sb, 1, none⟩ (.slice A6 (T.nodes.length - 1 + 1) c6) = w7 at *
                    go_wp2_with (at_builtin; refine wpList_append_own _ rfl _ _ 81 rfl w0.heap.size 80 k0 (.agg #[.slice none 0 0, .int .i64 0, .int .i64 0, .bool false]) 4 48 Tryd.underlying81 HRi.out.1 HRi.out.2.1 HRi.out.2.2.1 HRi.out.2.2.2 rfl (by decide) (.slice (some ⟨gN, 0, none⟩) NL.length cN) _ _ rfl (HG7.out.nds.alloc _) ⟨w7.heap.size, 0, none⟩ 1 1 [.slice (some ⟨yg, 0, none⟩) nx yc, .int .i64 ((stIdx T y : Nat) : Int), .int .i64 (i : Int), .bool false] rfl rfl ?c1 ?c2 ?c3 ?c4 ?c5 ?_)
                    case c1 => exact news_blk (heap_alloc_new w7 (.cells #[.slice (some ⟨yg, 0, none⟩) nx yc, .int .i64 ((stIdx T y : Nat) : Int), .int .i64 (i : Int), .bool false] 80))
                    case c2 => intro u hu; simp at hu; rcases hu with rfl | rfl | rfl | rfl <;> rfl
                    case c3 => unfold maxLen; omega
                    case c4 => omega
                    case c5 => have := HG7.out.bel.size; simp; omega
                    intro v8 w8 hown8 hgrow8 _
                    have HG8 := Lib.hid (HG7.out.node (x := ⟨(⟨pn, y, (i : Int), (k : Int), stIdx T y, gr, false, om⟩ : Nd), .slice (some ⟨yg, 0, none⟩) nx yc⟩) (.inl HN7.out) hown8 hgrow8)
                    have HMs := Lib.hid (moves_snoc HI.out HD.out (d := (⟨pn, y, (i : Int), (k : Int), stIdx T y, gr, false, om⟩ : Nd)) rfl T.states)
                    clear hown8 hgrow8 HG7 HN7
                    go_wp2_with fail
                    go_roundg (gk - 1)
                    case measure => have := HKk.out; omega
                    case rel => exact ⟨k + 1, ⟨T.nodes ++ [(⟨pn, y, (i : Int), (k : Int), stIdx T y, gr, false, om⟩ : Nd)], T.states⟩, _, _, _, _, by have := HKk.out; omega, by go_num, by rw [HMs.out]; exact HG8.out, HPq.out.1, HPq.out.2.node HD.out, by rw [HR.out, HStep.out]⟩
                  · have hfi : findR T.states y = -1 := find_no (fun s hs e => hmem (by subst e; exact hs))
                    rw [hfi] at HFd
                    clear hfi
                    by_cases hmo9 : T.states.length = most
                    · rw [addN_most hmem hmo9] at HStp
                      rw [HStp.out] at HStep
                      go_wp2_with fail
                      ((with_reducible refine HFd.out.mono ?_); rintro e w6 ⟨rfl, hb6⟩)
                      have HG6 := Lib.hid (HG5.out.below hb6)
                      have HRb4 := Lib.hid (HRb0.out.below HG6.out.bel)
                      have q2 : ((SL.length : Int) == (most : Int)) = true := by rw [HStl.out, hmo9]; exact beq_self_eq_true _
                      clear s0 s1 s2 HG5 HN5 HFd hb6 HPt
                      obtain ⟨s0, s1, s2⟩ := HG6.out.blk.cells
                      obtain ⟨r0, r1, r2⟩ := HRb4.out.cells
                      have rf0 := HRb4.out.soft 0
                      have rf1 := HRb4.out.soft 1
                      have rf2 := HRb4.out.soft 2
                      have HRe := Lib.hid (((HRb4.out.set0 (.slice none 0 0)).set1 (.slice none 0 0)).set2 false)
                      have HBe := Lib.hid (bset3 (below_then HBw.out HG6.out.bel) hrw (.slice none 0 0) (.slice none 0 0) (.bool false))
                      go_wp2_with fail
                      generalize ((w6.setCell ⟨rb, 0, none⟩ _).setCell ⟨rb, 1, none⟩ _).setCell ⟨rb, 2, none⟩ _ = we at *
                      obtain ⟨d0, d1, d2⟩ := HRe.out.cells
                      exact bodyPost_ret (v := .tuple #[.agg #[.slice none 0 0, .slice none 0 0, .bool false], .bool false]) (by simp [results, Tryd.results14, go_sem, d0, d1, d2]) rfl (RGPo.no (by rw [HR.out, HStep.out]) rfl HBe.out)
                    · have hq := addN_new (most := most) (x := ⟨pn, y, (i : Int), (k : Int), 0, gr, false, om⟩) hmem hmo9 hroom
                      rw [hq] at HStp
                      have HPq := Lib.hid (HPt.out _ hq)
                      rw [HStp.out] at HStep
                      have q2 : ((SL.length : Int) == (most : Int)) = false := by rw [HStl.out, beq_eq_false_iff_ne]; omega
                      clear hq HPt
                      go_wp2_with fail
                      ((with_reducible refine HFd.out.mono ?_); rintro e w6 ⟨rfl, hb6⟩)
                      have HG6 := Lib.hid (HG5.out.below hb6)
                      have HN6 := Lib.hid (HN5.out.below hb6)
                      clear hb6 HG5 HN5 HFd HZy s0 s1 s2
                      obtain ⟨s0, s1, s2⟩ := HG6.out.blk.cells
                      go_wp2_with (at_builtin; refine wpList_append_own _ rfl _ _ 28 rfl w0.heap.size 25 j0 (.slice none 0 0) 1 24 Tryd.underlying28 HJ.out.1 HJ.out.2.1 HJ.out.2.2.1 HJ.out.2.2.2 rfl (by decide) (.slice As SL.length cs) _ _ rfl (HG6.out.sts.alloc _) ⟨w6.heap.size, 0, none⟩ 1 1 [.slice (some ⟨yg, 0, none⟩) nx yc] rfl rfl ?c1 ?c2 ?c3 ?c4 ?c5 ?_)
                      case c1 => exact news_blk (heap_alloc_new w6 (.cells #[.slice (some ⟨yg, 0, none⟩) nx yc] 25))
                      case c2 => intro u hu; simp at hu; subst hu; rfl
                      case c3 => unfold maxLen; omega
                      case c4 => omega
                      case c5 => have := HG6.out.bel.size; simp; omega
                      intro v7 w7 hown7 hgrow7 _
                      obtain ⟨A7, c7, rfl, _⟩ := row_slice hown7
                      have hal := below_alloc w6 (.cells #[.slice (some ⟨yg, 0, none⟩) nx yc] 25)
                      have hsp7 := (HG6.out.blk.below hal).grown hgrow7 (row_block (HG6.out.sts.alloc _) (HG6.out.blk.below hal) (by decide))
                      have HG7 := Lib.hid (HG6.out.state (.inl HN6.out) HN6.out hown7 hgrow7)
                      have x0 := hsp7.cells.1
                      have xf := hsp7.soft 0
                      have HN8 := Lib.hid HG7.out.2.2
                      have HG8 := Lib.hid HG7.out.1
                      clear s0 s1 s2 hown7 hgrow7 hal hsp7 HG6 HN6 HG7
                      go_wp2_with fail
                      clear x0 xf
                      generalize w7.setCell ⟨sb, 0, none⟩ (.slice A7 (SL.length + 1) c7) = w5 at *
                      have HG5 := Lib.hid HG8.out
                      have HN5 := Lib.hid HN8.out
                      clear HG8 HN8
                      rw [HStl.out]
                      have hbd : Below w5.heap.size w5 w5.drew := (Below.refl _ _).drew
                      have HGd := Lib.hid (HG5.out.below hbd)
                      have HNd := Lib.hid (HN5.out.below hbd)
                      clear hbd HG5 HN5
                      obtain ⟨gN', cN', hvN', hgN', hcN', hRN'⟩ := HGd.out.rin (by omega)
                      cases hvN'
                      obtain ⟨x5, hx5, hxd5⟩ := HXi.out
                      have c5 := (hRN'.2 i x5 hx5).1 1 _ rfl
                      rw [hxd5] at c5
                      have hS0 := And.intro HGd.out.blk.cells.2.1 c5
                      refine wp_region_e_drew 13 (S := fun w' => w'.cell? ⟨sb, 1, none⟩ = some (.slice Amv (T.nodes.length - 1) cmv) ∧ w'.cell? ⟨gN, i * 4 + 1, none⟩ = some (.int .i64 (d.st : Int))) (by kernel_rfl) hS0 (fun hHeld => ?_)
                      clear hS0 c5
                      generalize w5.drew = wd at *
                      refine wpAnyE_take (i := 0) (v := ?_) [1, 11, 13] rfl (by kernel_rfl) (by kernel_rfl) (by kernel_rfl) (by kernel_rfl) (by kernel_rfl) (by kernel_rfl) (fun _ _ _ h => h) (Or.inl ⟨by rfl, ?_⟩) (by assumption) ?_
                      rotate_left
                      · intro w hSw; (try dsimp only at hSw); go_simp; try (with_reducible rfl)
                      try go_simp
                      refine wpAnyE_take (i := 1) (v := ?_) [11, 13] rfl (by kernel_rfl) (by kernel_rfl) (by kernel_rfl) (by kernel_rfl) (by kernel_rfl) (by kernel_rfl) (fun _ _ _ h => h) (Or.inl ⟨by rfl, ?_⟩) (by assumption) ?_
                      rotate_left
                      · intro w hSw; (try dsimp only at hSw); go_simp; try (with_reducible rfl)
                      try go_simp
                      refine wpAnyE_take (i := 2) (v := ?_) [4, 5, 6, 9, 10, 11, 13] rfl (by kernel_rfl) (by kernel_rfl) (by kernel_rfl) (by kernel_rfl) (by kernel_rfl) (by kernel_rfl) (fun _ _ _ h => h) (Or.inl ⟨by rfl, ?_⟩) (by assumption) ?_
                      rotate_left
                      · intro w hSw; (try dsimp only at hSw); go_simp; try (with_reducible rfl)
                      try go_simp
                      refine wpAnyE_take (i := 3) (v := ?_) [4, 5, 6, 9, 10, 11, 13] rfl (by kernel_rfl) (by kernel_rfl) (by kernel_rfl) (by kernel_rfl) (by kernel_rfl) (by kernel_rfl) (fun _ _ _ h => h) (Or.inl ⟨by rfl, ?_⟩) (by assumption) ?_
                      rotate_left
                      · intro w hSw; (try dsimp only at hSw); go_simp; try (with_reducible rfl)
                      try go_simp
                      refine wpAnyE_take (i := 4) (v := ?_) [5, 6, 9, 10, 11, 13] rfl (by kernel_rfl) (by kernel_rfl) (by kernel_rfl) (by kernel_rfl) (by kernel_rfl) (by kernel_rfl) (fun _ _ _ h => h) (Or.inl ⟨by rfl, ?_⟩) (by assumption) ?_
                      rotate_left
                      · intro w hSw; (try dsimp only at hSw); go_simp; try (with_reducible rfl)
                      try go_simp
                      refine wpAnyE_take (i := 5) (v := ?_) [6, 9, 10, 11, 13] rfl (by kernel_rfl) (by kernel_rfl) (by kernel_rfl) (by kernel_rfl) (by kernel_rfl) (by kernel_rfl) (fun _ _ _ h => h) (Or.inl ⟨by rfl, ?_⟩) (by assumption) ?_
                      rotate_left
                      · intro w hSw; (try dsimp only at hSw); go_simp; try (with_reducible rfl)
                      try go_simp
                      refine wpAnyE_take (i := 6) (v := ?_) [9, 10, 11, 13] rfl (by kernel_rfl) (by kernel_rfl) (by kernel_rfl) (by kernel_rfl) (by kernel_rfl) (by kernel_rfl) (fun _ _ _ h => h) (Or.inl ⟨by rfl, ?_⟩) (by assumption) ?_
                      rotate_left
                      · intro w hSw; (try dsimp only at hSw); go_simp; try (with_reducible rfl)
                      try go_simp
                      refine wpAnyE_take (i := 7) (v := ?_) [9, 10, 11, 13] rfl (by kernel_rfl) (by kernel_rfl) (by kernel_rfl) (by kernel_rfl) (by kernel_rfl) (by kernel_rfl) (fun _ _ _ h => h) (Or.inl ⟨by rfl, ?_⟩) (by assumption) ?_
                      rotate_left
                      · intro w hSw; (try dsimp only at hSw); go_simp; try (with_reducible rfl)
                      try go_simp
                      refine wpAnyE_take (i := 8) (v := ?_) [9, 10, 11, 13] rfl (by kernel_rfl) (by kernel_rfl) (by kernel_rfl) (by kernel_rfl) (by kernel_rfl) (by kernel_rfl) (fun _ _ _ h => h) (Or.inl ⟨by rfl, ?_⟩) (by assumption) ?_
                      rotate_left
                      · intro w hSw; (try dsimp only at hSw); go_simp; try (with_reducible rfl)
                      try go_simp
                      refine wpAnyE_take (i := 9) (v := ?_) [10, 11, 13] rfl (by kernel_rfl) (by kernel_rfl) (by kernel_rfl) (by kernel_rfl) (by kernel_rfl) (by kernel_rfl) (fun _ _ _ h => h) (Or.inl ⟨by rfl, ?_⟩) (by assumption) ?_
                      rotate_left
                      · intro w hSw; (try dsimp only at hSw); go_simp; try (with_reducible rfl)
                      try go_simp
                      have hS0 := hHeld
                      refine wpAnyE_one (i := 10) (by kernel_rfl) rfl (fun K hK => ?_)
                      go_simp
                      skip
                      refine hK.out _ _ (fun _ => ⟨cell_stays (below_alloc _ _) hS0.1, cell_stays (below_alloc _ _) hS0.2⟩) (fun hH => ?_)
                      have hHeld := hH (by decide)
                      clear hH hK K
                      try go_simp
                      refine wpAnyE_one (i := 11) (by kernel_rfl) rfl (fun K hK => ?_)
                      have hq1 := HGd.out.mvs.1
                      rw [movesOf_len] at hq1
                      refine step_append_own rfl _ _ 29 rfl w0.heap.size 72 i0 (.agg #[.int .i64 0, .int .i64 0, .int .i64 0]) 3 24 Tryd.underlying29 HMi.out.1 HMi.out.2.1 HMi.out.2.2.1 HMi.out.2.2.2 rfl (by decide) (.slice Amv (T.nodes.length - 1) cmv) _ _ rfl (hq1.alloc _) ⟨wd.heap.size, 0, none⟩ 1 1 [.int .i64 (d.st : Int), .int .i64 ((T.states.length : Nat) : Int), .int .i64 (k : Int)] rfl rfl ?c1 ?c2 ?c3 ?c4 ?c5 ?_
                      case c1 => exact news_blk (heap_alloc_new wd (.cells #[.int .i64 (d.st : Int), .int .i64 ((T.states.length : Nat) : Int), .int .i64 (k : Int)] 72))
                      case c2 => intro u hu; simp at hu; rcases hu with rfl | rfl | rfl <;> rfl
                      case c3 => unfold maxLen; omega
                      case c4 => omega
                      case c5 => have := HGd.out.bel.size; simp; omega
                      intro v6 w6 hown6 hgrow6
                      obtain ⟨A6, c6, rfl, _⟩ := row_slice hown6
                      have hal := below_alloc wd (.cells #[.int .i64 (d.st : Int), .int .i64 ((T.states.length : Nat) : Int), .int .i64 (k : Int)] 72)
                      have hsp6 := (HGd.out.blk.below hal).grown hgrow6 (row_block (hq1.alloc _) (HGd.out.blk.below hal) (by decide))
                      have HG6 := Lib.hid (HGd.out.move (x := ⟨(d.st : Int), ((T.states.length : Nat) : Int), (k : Int)⟩) (by rw [movesOf_len]; exact hown6) hgrow6)
                      have x1 := hsp6.cells.2.1
                      have xf := hsp6.soft 1
                      have c56 : w6.cell? ⟨gN, i * 4 + 1, none⟩ = some (.int .i64 (d.st : Int)) := hgrow6.cell (cell_stays hal hS0.2) (fun e => by
                        obtain ⟨cur, hk1⟩ := own_kind HGd.out.nds rfl
                        exact row_block (hq1.alloc _) (by rw [hal.block gN (Array.getElem?_eq_some_iff.1 hk1).1]; exact hk1) (by decide) e)
                      refine hK.out _ _ (fun _ => ⟨x1, c56⟩) (fun hH => ?_)
                      have hHeld := hH (by decide)
                      clear hH hK K
                      try go_simp
                      refine wpAnyE_take (i := 12) (v := ?_) [13] rfl (by kernel_rfl) (by kernel_rfl) (by kernel_rfl) (by kernel_rfl) (by kernel_rfl) (by kernel_rfl) (fun _ _ _ h => h) (Or.inl ⟨by rfl, ?_⟩) (by assumption) ?_
                      rotate_left
                      · intro w hSw; (try dsimp only at hSw); go_simp; try (with_reducible rfl)
                      try go_simp
                      refine wpAnyE_one (i := 13) (by kernel_rfl) rfl (fun K hK => ?_)
                      go_simp
                      skip
                      refine hK.out _ _ (fun h => absurd rfl h) (fun _ => ?_)
                      clear hK K
                      try go_simp
                      refine wpAnyE_done (by kernel_rfl) ?_ _
                      have HG7 := Lib.hid HG6.out.1
                      have HN7 := Lib.hid (HG6.out.2 _ _ HNd.out)
                      clear hHeld hS0 hq1 hown6 hgrow6 hal hsp6 x1 xf c56 HGd HNd HG6 hRN'
                      generalize w6.setCell ⟨sb, 1, none⟩ (.slice A6 (T.nodes.length - 1 + 1) c6) = w7 at *
                      go_wp2_with (at_builtin; refine wpList_append_own _ rfl _ _ 81 rfl w0.heap.size 80 k0 (.agg #[.slice none 0 0, .int .i64 0, .int .i64 0, .bool false]) 4 48 Tryd.underlying81 HRi.out.1 HRi.out.2.1 HRi.out.2.2.1 HRi.out.2.2.2 rfl (by decide) (.slice (some ⟨gN, 0, none⟩) NL.length cN) _ _ rfl (HG7.out.nds.alloc _) ⟨w7.heap.size, 0, none⟩ 1 1 [.slice (some ⟨yg, 0, none⟩) nx yc, .int .i64 ((T.states.length : Nat) : Int), .int .i64 (i : Int), .bool true] rfl rfl ?c1 ?c2 ?c3 ?c4 ?c5 ?_)
                      case c1 => exact news_blk (heap_alloc_new w7 (.cells #[.slice (some ⟨yg, 0, none⟩) nx yc, .int .i64 ((T.states.length : Nat) : Int), .int .i64 (i : Int), .bool true] 80))
                      case c2 => intro u hu; simp at hu; rcases hu with rfl | rfl | rfl | rfl <;> rfl
                      case c3 => unfold maxLen; omega
                      case c4 => omega
                      case c5 => have := HG7.out.bel.size; simp; omega
                      intro v8 w8 hown8 hgrow8 _
                      have HG8 := Lib.hid (HG7.out.node (x := ⟨(⟨pn, y, (i : Int), (k : Int), T.states.length, gr, true, om⟩ : Nd), .slice (some ⟨yg, 0, none⟩) nx yc⟩) (.inl HN7.out) hown8 hgrow8)
                      have HMs := Lib.hid (moves_snoc HI.out HD.out (d := (⟨pn, y, (i : Int), (k : Int), T.states.length, gr, true, om⟩ : Nd)) rfl (T.states ++ [y]))
                      clear hown8 hgrow8 HG7 HN7
                      go_wp2_with fail
                      go_roundg (gk - 1)
                      case measure => have := HKk.out; omega
                      case rel => exact ⟨k + 1, ⟨T.nodes ++ [(⟨pn, y, (i : Int), (k : Int), T.states.length, gr, true, om⟩ : Nd)], T.states ++ [y]⟩, _, _, _, _, by have := HKk.out; omega, by go_num, by rw [HMs.out]; exact HG8.out, HPq.out.1, HPq.out.2.node HD.out, by rw [HR.out, HStep.out]⟩
          · have HX := Lib.hid (contI_end (N := N) (most := most) (i := i) (T := T) (k := k) (by rw [HLn.out]; omega))
            rw [HX.out] at HR
            clear HX
            go_wp2_with fail
            go_roundg (go - 1)
            case measure => have := HK.out; omega
            case rel => exact ⟨i + 1, T, vS, vM, SL, NL, by have := HK.out; omega, by go_num, HG.out, HI.out, by rw [← HL.out]; omega, HR.out⟩
    · have HX := Lib.hid (contF_end (N := N) (most := most) (i := i) (T := T) (by rw [← HL.out]; omega))
      rw [HX.out] at HR
      have HRb4 := Lib.hid (HRb0.out.below HG.out.bel)
      obtain ⟨s0, s1, s2⟩ := HG.out.blk.cells
      obtain ⟨r0, r1, r2⟩ := HRb4.out.cells
      have rf0 := HRb4.out.soft 0
      have rf1 := HRb4.out.soft 1
      have rf2 := HRb4.out.soft 2
      have HRe := Lib.hid (((HRb4.out.set0 vS).set1 vM).set2 true)
      have HBe := Lib.hid (bset3 (below_then HBw.out HG.out.bel) hrw vS vM (.bool true))
      have HSp := Lib.hid (HG.out.spo HRb4.out (sp_grown wr rb vS vM (.bool true)))
      obtain ⟨As, cs, hvs, _⟩ := HG.out.lin
      obtain ⟨Amv, cmv, hvm⟩ := HG.out.mvs.slice
      subst hvs hvm
      go_wp2_with fail
      generalize ((wr.setCell ⟨rb, 0, none⟩ _).setCell ⟨rb, 1, none⟩ _).setCell ⟨rb, 2, none⟩ _ = we at *
      obtain ⟨d0, d1, d2⟩ := HRe.out.cells
      exact bodyPost_ret (v := .tuple #[.agg #[.slice As SL.length cs, .slice Amv (movesOf T).length cmv, .bool true], .bool true]) (by simp [results, Tryd.results14, go_sem, d0, d1, d2]) rfl (RGPo.yes HR.out rfl HSp.out HBe.out)
end Go.Proofs.YtjojmmabcjccdaaDoor
