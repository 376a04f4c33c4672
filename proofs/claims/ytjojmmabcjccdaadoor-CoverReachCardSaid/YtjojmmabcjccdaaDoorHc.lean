/- The way between two nodes of the tree: what a call returns. -/
import Derived.Test.YtjojmmabcjccdaaDoorDk
import Derived.Test.YtjojmmabcjccdaaDoorDe
import Derived.Sort.OwnSortedInts
namespace Go.Proofs.YtjojmmabcjccdaaDoor
open Go.RowKit Go.Sort

theorem reverse_any {w0 w : World} {v : Value} {L : List Int} (h : NS w0 w v L) (hl : L.length ≤ 1000000) :
    Calls Tryd.prog 66 #[v] w fun e w' => e = .returned (.tuple #[]) ∧ NS w0 w' v L.reverse := by
  rcases h.1.2 with ⟨hv, hn⟩ | ⟨g, cap, cur, hv, hg, hh, hnc, hc, hsz, htk⟩
  · have hL : L = [] := List.eq_nil_of_length_eq_zero hn
    subst hL hv
    exact (Tryd.slices_Reverse_int_empty none 0 w).mono fun e w' ⟨h1, h2⟩ => ⟨h1, by subst h2; exact h⟩
  · subst hv
    have hH : Holds (Value.int .i64) w g 0 L.toArray := holds_of_blockI hh (by rw [← htk, Nat.mul_one])
    refine (Tryd.slices_Reverse_int g 0 cap L w hH (by omega)).mono fun e w' ⟨h1, n, h2⟩ => ⟨h1, ?_⟩
    have e0 : w' = grow (putRow (Value.int .i64) (Sort.ahead w n) g 0 L.reverse.toArray) #[] := by rw [grow_empty]; exact h2
    rw [e0]
    have ho := ownsRow_sortedI (base := w0.heap.size) (os := #[]) (n := n) (ts := L.reverse) (ss := L) (by simp) hg hh hnc hc (by rw [hsz])
    refine ⟨by rw [List.length_reverse]; exact ho, h.2.grown (grownBy_sortedI _) h.2.size (fun k hk => by cases hk; exact hg)⟩
/-- the loop up the tree -/
def WyI (N : Nt) (T : TS) (a : Nat) (W : List Nat) (w : World) (g : Nat) (iv ov : Value) (wr : World) : Prop :=
  ∃ (j : Nat) (l r : List Nat), j < g ∧ iv = .int .i64 (j : Int) ∧ Path N T a j l ∧ W = l ++ r ∧ NS w wr ov (r.reverse.map Int.ofNat) ∧ j < T.nodes.length
set_option maxHeartbeats 6400000 in
set_option maxRecDepth 100000 in
theorem way_any (w0 : World) (tb : Nat) (vN vS : Value) (NL : List Nv) (SL : List Value) (N : Nt) (M : List Int) (T : TS) (w : World) (h : GP w0 w tb vN vS NL SL T) (hI : TInv N M T) (a i : Nat) (W : List Nat) (hp : Path N T a i W) (hi : i < T.nodes.length) (hW : W.length ≤ 100000) :
    Calls Tryd.prog 49 #[.pointer (some ⟨tb, 0, none⟩), .int .i64 a, .int .i64 i] w fun e w' => ∃ v, e = .returned v ∧ NS w w' v (W.map Int.ofNat) := by
  have HG := Lib.hid h
  have HTI := Lib.hid hI
  have HL := Lib.hid h.len
  have hnl : NL.length ≤ 20001 := by rw [h.len]; exact hI.len
  clear h hI
  obtain ⟨i0, hii, hz0, hz1, hz2⟩ := info_parts intInfo
  have HI := Lib.hid (And.intro hii (And.intro hz0 (And.intro hz1 hz2)))
  clear hii hz0 hz1 hz2
  go_enter Tryd.func49, Tryd.ntmps49
  go_wp2_with fail
  go_loopg [8, 7] (i + 1) (fun g iv ov wr => WyI N T a W w g iv ov wr)
  case atStart => exact ⟨i, W, [], by omega, rfl, hp, by simp, NS.start (Below.refl _ _), hi⟩
  case round =>
    clear hp hi
    obtain ⟨j, l, r, hjg, rfl, hp, hw, hS, hj⟩ := hrel
    have HP := Lib.hid hp
    have HW := Lib.hid hw
    have HGr := Lib.hid (HG.out.below hS.2)
    have hrl : r.length ≤ 100000 := by rw [hw, List.length_append] at hW; omega
    have hll : (r.reverse.map Int.ofNat).length = r.length := by simp
    have HXa := Lib.hid (show (r.reverse.map Int.ofNat).reverse = r.map Int.ofNat by rw [← List.map_reverse, List.reverse_reverse])
    have HXb := Lib.hid (fun k : Nat => show r.reverse.map Int.ofNat ++ [(k : Int)] = (k :: r).reverse.map Int.ofNat by simp)
    generalize r.reverse.map Int.ofNat = Z at *
    have HS := Lib.hid hS
    obtain ⟨Av, cv, rfl⟩ := hS.slice
    rw [hll] at HS
    clear hp hw hS
    by_cases hja : j = a
    · have q1 : ((j : Int) != (a : Int)) = false := by rw [hja]; exact bne_self_eq_false _
      have hl0 : l = [] := by
        apply Classical.byContradiction
        intro hne
        have := (HP.out.le HTI.out).2 hne; omega
      have HX := Lib.hid (show Z.reverse = W.map Int.ofNat by rw [HW.out, hl0, List.nil_append]; exact HXa.out)
      clear hl0
      rw [hll]
      go_wp2_with fail
      ((with_reducible refine (reverse_any HS.out (by rw [hll]; omega)).mono ?_); rintro e w1 ⟨rfl, hS1⟩)
      have HS1 := Lib.hid hS1
      clear hS1
      rw [HX.out] at HS1
      go_wp2_with fail
      go_ret
      exact ⟨_, rfl, HS1.out⟩
    · have q1 : ((j : Int) != (a : Int)) = true := by rw [bne_iff_ne]; omega
      obtain ⟨j', k, l', d, hl', hp', hd, hj0, hab, htr⟩ : ∃ (j' k : Nat) (l' : List Nat) (d : Nd), l = l' ++ [k] ∧ Path N T a j' l' ∧ T.nodes[j]? = some d ∧ 0 < j ∧ d.ab = (j' : Int) ∧ d.tr = (k : Int) := by
        cases HP.out with
        | nil => exact absurd rfl hja
        | snoc h1 h2 h3 h4 h5 => exact ⟨_, _, _, _, rfl, h1, h2, h3, h4, h5⟩
      have hjj : j' < j := by have := HTI.out.ab j d hd; omega
      have HP' := Lib.hid hp'
      have HW' := Lib.hid (show W = l' ++ k :: r by rw [HW.out, hl']; simp)
      obtain ⟨gN, cN, x, hv, _, _, hjl, hx, _, _, hc⟩ := HGr.out.at_ hd
      have HC2 := Lib.hid (show w.cell? ⟨gN, j * 8 + 2, none⟩ = some (.int .i64 (j' : Int)) by
        obtain ⟨gN', cN', x', hv', _, _, _, hx', _, _, hc'⟩ := HG.out.at_ hd
        have e := hv'.symm.trans hv
        cases e
        have := hc' 2 _ rfl
        rw [hx', hab] at this; exact this)
      have c3 := hc 3 _ rfl
      have c2 := hc 2 _ rfl
      rw [hx, htr] at c3
      rw [hx, hab] at c2
      have Q := Lib.hid (And.intro c3 c2)
      clear hc hx hd hp' hl' HP HW hja c3 c2
      subst hv
      obtain ⟨t0, t1, _, _⟩ := HGr.out.cells
      obtain ⟨c3, c2⟩ := Q.out
      have hj0' : (0 : Int) ≤ (j : Int) := by omega
      have hj1' : (j : Int) < (NL.length : Int) := by omega
      rw [hll]
      go_wp2_with (at_builtin; refine wpList_append_own _ rfl _ _ 25 rfl w.heap.size 3 i0 (.int .i64 0) 1 8 Tryd.underlying25 HI.out.1 HI.out.2.1 HI.out.2.2.1 HI.out.2.2.2 rfl (by decide) (.slice Av r.length cv) _ _ rfl (HS.out.1.alloc _) ⟨wr.heap.size, 0, none⟩ 1 1 [.int .i64 k] rfl rfl ?c1 ?c2 ?c3 ?c4 ?c5 ?_)
      case c1 => intro j u hj; match j, hj with | 0, hj => simp at hj; subst hj; simp [Addr.add] | j + 1, hj => simp at hj
      case c2 => intro u hu; simp at hu; subst hu; rfl
      case c3 => unfold maxLen; rw [hll]; omega
      case c4 => rw [hll]; omega
      case c5 => have := HS.out.size; simp; omega
      intro v' w4 hown4 hgrow4 _
      have HS4 := Lib.hid (HS.out.push (by rw [hll]; exact hown4) hgrow4)
      rw [HXb.out k] at HS4
      clear hown4 hgrow4 t0 t1 c3 c2
      have HG4 := Lib.hid (HG.out.below HS4.out.2)
      obtain ⟨t0, t1, _, _⟩ := HG4.out.cells
      have c2 := cell_stays HS4.out.2 HC2.out
      go_wp2_with fail
      go_roundg (gk - 1)
      case measure => omega
      case rel => exact ⟨j', l', k :: r, by omega, rfl, HP'.out, HW'.out, HS4.out, by omega⟩
end Go.Proofs.YtjojmmabcjccdaaDoor
