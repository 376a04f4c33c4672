/- Next of both texts: what a call returns. -/
import Derived.Test.YtbbdgncjpbfooaaGreatDoorEl
namespace Go.Proofs.YtbbdgncjpbfooaaGreatDoor
open Go.RowKit

theorem intInfo : (Tryz.prog.info? 3).map (fun i => (i.zero, i.size, i.bytes)) = some (some (.int .i64 0), 1, 8) := by kernel_rfl
/-- the steps below k that are possible in a state -/
def nxtTo (st : Int) : Nat → List Int
  | 0 => []
  | k + 1 => if aftZ st k = -1 then nxtTo st k else nxtTo st k ++ [(k : Int)]
theorem nxt_no (st : Int) (k : Nat) (h : aftZ st k = -1) : nxtTo st (k + 1) = nxtTo st k := by rw [nxtTo, if_pos h]
theorem nxt_yes (st : Int) (k : Nat) (h : aftZ st k ≠ -1) : nxtTo st (k + 1) = nxtTo st k ++ [(k : Int)] := by rw [nxtTo, if_neg h]
theorem nxt_one (st : Int) : nxtTo st 1 = [] := by
  rw [nxt_no st 0 (by unfold aftZ; simp)]; rfl
theorem nxt_len (st : Int) (k : Nat) : (nxtTo st k).length ≤ k := by
  induction k with
  | zero => simp [nxtTo]
  | succ k ih =>
    by_cases h : aftZ st k = -1
    · rw [nxt_no _ _ h]; omega
    · rw [nxt_yes _ _ h, List.length_append]; simp; omega
/-- the steps that are possible after a list -/
def nextV (l : List Int) : List Int := if (livesV l).2 = 0 then nxtTo (livesV l).1 7 else []
theorem livesZ_state (l : List Int) : ∀ (k : Nat) (st : Int), 0 ≤ st → st ≤ 5 → (livesZ k st l).2 = 0 → 0 ≤ (livesZ k st l).1 ∧ (livesZ k st l).1 ≤ 5 := by
  induction l with
  | nil => intro k st h0 h5 _; exact ⟨h0, h5⟩
  | cons x l ih =>
    intro k st h0 h5 h
    by_cases hx : x < 1 ∨ 6 < x
    · rw [lives_range _ _ _ _ hx] at h; simp at h
    · by_cases ha : aftZ st x = -1
      · rw [lives_no _ _ _ _ (by omega) (by omega) ha] at h; simp at h
      · rw [lives_on _ _ _ _ (by omega) (by omega) ha] at h ⊢
        have := aft_in st x
        exact ih _ _ (by omega) (by omega) h
theorem lives_state (l : List Int) (h : (livesV l).2 = 0) : 0 ≤ (livesV l).1 ∧ (livesV l).1 ≤ 5 := by
  unfold livesV at h ⊢
  split at h
  · exact absurd h (by decide)
  · rename_i hl; rw [if_neg hl]; exact livesZ_state l 0 0 (by omega) (by omega) h
/-- what Next returns -/
def NxPost (L : List Int) (k : Int) (w : World) (e : Ending) (w' : World) : Prop := ∃ v, e = .returned (.tuple #[v, .int .i64 k]) ∧ w'.ownsRow w.heap.size 3 1 v L.length (L.map (Value.int .i64)) ∧ Below w.heap.size w w'
theorem NxPost.none {L : List Int} {k : Int} {w w' : World} {e : Ending} (hL : L = []) (he : e = .returned (.tuple #[.slice none 0 0, .int .i64 k])) (hb : Below w.heap.size w w') : NxPost L k w e w' := by
  subst hL; exact ⟨_, he, World.ownsRow_nil _ _ _ _, hb⟩
/-- the steps so far -/
def NS (w wr : World) (v : Value) (L : List Int) : Prop := wr.ownsRow w.heap.size 3 1 v L.length (L.map (Value.int .i64)) ∧ Below w.heap.size w wr
theorem NS.start {w wr : World} (hb : Below w.heap.size w wr) : NS w wr (.slice none 0 0) [] := ⟨World.ownsRow_nil _ _ _ _, hb⟩
theorem NS.below {w wr w' : World} {v : Value} {L : List Int} (h : NS w wr v L) (hb : Below wr.heap.size wr w') : NS w w' v L := ⟨own_stays h.1 hb, below_then h.2 hb⟩
theorem NS.size {w wr : World} {v : Value} {L : List Int} (h : NS w wr v L) : w.heap.size ≤ wr.heap.size := h.2.size
theorem NS.push {w wr w' : World} {v v' : Value} {L : List Int} {x : Int} {o : Obj} (h : NS w wr v L) (ho : w'.ownsRow w.heap.size 3 1 v' (L.length + 1) (L.map (Value.int .i64) ++ [.int .i64 x])) (hg : (wr.alloc o).grownBy w' v.ownBlock) : NS w w' v' (L ++ [x]) := by
  have hsz := h.size
  refine ⟨by rw [List.length_append, List.map_append]; exact ho, (h.2.alloc hsz o).grown hg (by simp; omega) (fun k hk => (h.1.lt k hk).1)⟩
theorem NS.slice {w wr : World} {v : Value} {L : List Int} (h : NS w wr v L) : ∃ A cap, v = .slice A L.length cap := by
  rcases h.1.2 with ⟨rfl, h0⟩ | ⟨g, cap, cur, rfl, _⟩
  · exact ⟨none, 0, by rw [h0]⟩
  · exact ⟨_, cap, rfl⟩
set_option maxHeartbeats 3200000 in
set_option maxRecDepth 100000 in
theorem enext_any (A : Option Addr) (n cap : Nat) (Z : List Int) (w : World) (h : ZIn w A Z) (hn : Z.length = n) (hn2 : n ≤ 9223372036854775807) :
    Calls Tryz.prog 28 #[.slice A n cap] w (NxPost (nextV Z) (livesV Z).2 w) := by
  have HL := Lib.hid (lives_any A n cap Z w h hn hn2)
  have HV := Lib.hid (show nextV Z = if (livesV Z).2 = 0 then nxtTo (livesV Z).1 7 else [] from rfl)
  have hst := lives_state Z
  generalize nextV Z = X at *
  generalize livesV Z = R at *
  obtain ⟨st, er⟩ := R
  simp only at hst
  clear h hn
  by_cases he : er = 0
  · obtain ⟨hs0, hs5⟩ := hst he
    have HX := Lib.hid (show X = nxtTo st 7 by rw [HV.out, if_pos he])
    clear HV hst
    subst he
    obtain ⟨i0, hi, hz0, hz1, hz2⟩ := info_parts intInfo
    have HI := Lib.hid (And.intro hi (And.intro hz0 (And.intro hz1 hz2)))
    clear hi hz0 hz1 hz2
    go_enter Tryz.func28, Tryz.ntmps28
    go_wp2_with fail
    ((with_reducible refine HL.out.mono ?_); rintro e w1 ⟨rfl, hb1⟩)
    have HS0 := Lib.hid (NS.start hb1)
    clear hb1
    go_wp2_with fail
    go_loopg [6, 7] (6) (fun g v s wr => ∃ (k : Nat), k + g = 7 ∧ 1 ≤ k ∧ s = .int .i64 k ∧ NS w wr v (nxtTo st k))
    case atStart => exact ⟨1, by omega, by omega, rfl, by rw [nxt_one]; exact HS0.out⟩
    case round =>
      obtain ⟨k, hk, hk1, rfl, hS⟩ := hrel
      have HS := Lib.hid hS
      have HK := Lib.hid hk
      have hk7 : k ≤ 7 := by omega
      obtain ⟨A1, c1, rfl⟩ := hS.slice
      have hlen := nxt_len st k
      clear hk hS HS0
      by_cases hlt : k ≤ 6
      · have HA := Lib.hid (fun w => after_any st k w hs0 hs5 (by omega) (by omega))
        have hin := aft_in st k
        by_cases ha : aftZ st k = -1
        · have HN := Lib.hid (nxt_no st k ha)
          rw [ha] at HA
          clear ha hin
          go_wp2_with fail
          ((with_reducible refine (HA.out _).mono ?_); rintro e w1 ⟨rfl, hb1⟩)
          go_wp2_with fail
          go_roundg (gk - 1)
          case measure => have := HK.out; omega
          case rel => exact ⟨k + 1, by have := HK.out; omega, by omega, by go_num, by rw [HN.out]; exact NS.below HS.out hb1⟩
        · have HN := Lib.hid (nxt_yes st k ha)
          generalize aftZ st k = st2 at *
          have q1 : (st2 != -1) = true := by simpa using ha
          have q2 : 0 ≤ st2 := by omega
          clear ha hin
          go_wp2_with fail
          ((with_reducible refine (HA.out _).mono ?_); rintro e w1 ⟨rfl, hb1⟩)
          replace HS := Lib.hid (NS.below HS.out hb1)
          clear hb1
          generalize nxtTo st k = L at *
          go_wp2_with (at_builtin; refine wpList_append_own _ rfl _ _ 57 rfl w.heap.size 3 i0 (.int .i64 0) 1 8 Tryz.underlying57 HI.out.1 HI.out.2.1 HI.out.2.2.1 HI.out.2.2.2 rfl (by decide) (.slice A1 L.length c1) _ _ rfl (HS.out.1.alloc _) ⟨w1.heap.size, 0, none⟩ 1 1 [.int .i64 k] rfl rfl ?c1 ?c2 ?c3 ?c4 ?c5 ?_)
          case c1 => intro j u hj; match j, hj with | 0, hj => simp at hj; subst hj; simp [Addr.add] | j + 1, hj => simp at hj
          case c2 => intro u hu; simp at hu; subst hu; rfl
          case c3 => unfold maxLen; omega
          case c4 => omega
          case c5 => have := HS.out.size; simp; omega
          intro v' w4 hown4 hgrow4 _
          replace HS := Lib.hid (HS.out.push hown4 hgrow4)
          clear hown4 hgrow4
          go_wp2_with fail
          go_roundg (gk - 1)
          case measure => have := HK.out; omega
          case rel => exact ⟨k + 1, by have := HK.out; omega, by omega, by go_num, by rw [HN.out]; exact HS.out⟩
      · obtain rfl : k = 7 := by omega
        go_wp2_with fail
        go_ret2
        rw [HX.out]
        exact ⟨_, rfl, HS.out⟩
  · have HX := Lib.hid (show X = [] by rw [HV.out, if_neg he])
    have q1 : (er != 0) = true := by simpa using he
    clear HV hst he
    go_enter Tryz.func28, Tryz.ntmps28
    go_wp2_with fail
    ((with_reducible refine HL.out.mono ?_); rintro e w1 ⟨rfl, hb1⟩)
    have HB := Lib.hid hb1
    clear hb1
    go_wp2_with fail
    go_ret2
    exact NxPost.none HX.out rfl HB.out
end Go.Proofs.YtbbdgncjpbfooaaGreatDoor
