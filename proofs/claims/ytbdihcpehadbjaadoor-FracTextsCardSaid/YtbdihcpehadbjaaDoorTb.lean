/- digits of the reference: what a call returns. -/
import Derived.Test.YtbdihcpehadbjaaDoorTa
import Derived.Test.YtbdihcpehadbjaaDoorTp
namespace Go.Proofs.YtbdihcpehadbjaaDoor
open Go.RowKit

theorem dval_lt (l : List UInt8) (h : ∀ c ∈ l, isDig c = true) : dval l < 10 ^ l.length := by
  suffices ∀ (r : List UInt8), (∀ c ∈ r, isDig c = true) → dval r.reverse < 10 ^ r.length by
    have := this l.reverse (fun c hc => h c (by simpa using hc)); simpa using this
  intro r
  induction r with
  | nil => intro _; simp [dval]
  | cons c r ih =>
    intro hr
    rw [List.reverse_cons, dval_snoc, List.length_cons, Nat.pow_succ]
    have h1 := ih (fun x hx => hr x (List.mem_cons_of_mem _ hx))
    have h2 := hr c (List.mem_cons_self ..)
    unfold isDig at h2
    simp at h2
    omega
/-- digits read a stretch of at most eleven digits -/
def DigS (l : List UInt8) (i : Nat) (w : World) (e : Ending) (w' : World) : Prop :=
  ∃ j : Nat, j ≤ 11 ∧ i + j ≤ l.length ∧ (∀ c ∈ (l.drop i).take j, isDig c = true) ∧ (i + j = l.length ∨ j = 11 ∨ ∃ c, l[i + j]? = some c ∧ isDig c = false) ∧
    e = .returned (.tuple #[.int .i64 (dval ((l.drop i).take j)), .int .i64 ((i + j : Nat) : Int)]) ∧ w = w'
theorem take_next (s : ByteArray) (i j : Nat) (h : i + j < s.size) : (s.data.toList.drop i).take (j + 1) = (s.data.toList.drop i).take j ++ [s[i + j]] := by
  rw [List.take_succ_eq_append_getElem (by simp; omega)]
  congr 1
  simp [List.getElem_drop]; rfl
theorem at_byte (s : ByteArray) (k : Nat) (h : k < s.size) : s.data.toList[k]? = some s[k] := by
  rw [List.getElem?_eq_getElem (by simpa using h)]; rfl

set_option maxHeartbeats 1600000 in
theorem digits_any (s : ByteArray) (i : Nat) (w : World) (hs : s.size ≤ 9223372036854775000) (hi : i ≤ s.size) :
    Calls Tryd.prog 47 #[.string s, .int .i64 i] w (DigS s.data.toList i w) := by
  go_enter Tryd.func47, Tryd.ntmps47
  go_wp2_with fail
  go_loop [6, 7] (fun n k => ∃ j : Nat, j ≤ 11 ∧ i + j ≤ s.size ∧ (∀ c ∈ (s.data.toList.drop i).take j, isDig c = true) ∧ n = .int .i64 (dval ((s.data.toList.drop i).take j)) ∧ k = .int .i64 ((i + j : Nat) : Int)) (fun _ k => s.size - (intOf k).toNat)
  case atStart => exact ⟨0, by omega, by omega, by simp, rfl, rfl⟩
  case round =>
    obtain ⟨j, hj, hij, hd, rfl, rfl⟩ := hrel
    have hlt := dval_lt _ hd
    have hll : ((s.data.toList.drop i).take j).length ≤ j := List.length_take_le _ _
    have hb : dval ((s.data.toList.drop i).take j) < 100000000000 := Nat.lt_of_lt_of_le hlt (Nat.le_trans (Nat.pow_le_pow_right (by omega) (Nat.le_trans hll hj)) (by decide))
    have HD := Lib.hid hd; clear hd hlt hll
    have HN := Lib.hid (fun (h : i + j < s.size) => take_next s i j h)
    generalize hV : dval ((s.data.toList.drop i).take j) = V at *
    have HV := Lib.hid hV; clear hV
    by_cases h1 : i + j < s.size
    · by_cases h2 : j < 11
      · have h2' : ((i + j : Nat) : Int) < (i : Int) + 11 := by omega
        by_cases h3 : 48 ≤ (s[i + j].toNat : Int) ∧ (s[i + j].toNat : Int) ≤ 57
        · obtain ⟨h3, h4⟩ := h3
          have hdig : isDig s[i + j] = true := by unfold isDig; simp; omega
          have HNEW := Lib.hid (show (∀ c ∈ (s.data.toList.drop i).take (j + 1), isDig c = true) ∧ ((dval ((s.data.toList.drop i).take (j + 1)) : Nat) : Int) = 10 * (V : Int) + ((s[i + j].toNat : Int) - 48) by
            rw [HN.out h1]
            refine ⟨fun c hc => ?_, ?_⟩
            · rcases List.mem_append.1 hc with h | h
              · exact HD.out c h
              · have : c = s[i + j] := by simpa using h
                subst this; exact hdig
            · rw [dval_snoc, HV.out]; omega)
          clear hdig
          go_wp2_with fail
          exact ⟨⟨j + 1, by omega, by omega, HNEW.out.1, by rw [HNEW.out.2], by go_num⟩, by simp [intOf]; omega⟩
        · have hnd : isDig s[i + j] = false := by unfold isDig; simp; omega
          have HE := Lib.hid (show i + j = s.data.toList.length ∨ j = 11 ∨ ∃ c, s.data.toList[i + j]? = some c ∧ isDig c = false from .inr (.inr ⟨s[i + j], at_byte s _ h1, hnd⟩))
          clear hnd
          have h3' : (s[i + j].toNat : Int) < 48 ∨ (48 ≤ (s[i + j].toNat : Int) ∧ 57 < (s[i + j].toNat : Int)) := by omega
          clear h3
          rcases h3' with h3 | ⟨h3, h4⟩
          all_goals
            go_wp2_with fail
            go_ret2
            exact ⟨j, hj, by simpa using hij, HD.out, HE.out, ret_ints (by rw [HV.out]) rfl, rfl⟩
      · have h2' : (i : Int) + 11 ≤ ((i + j : Nat) : Int) := by omega
        have HE := Lib.hid (show i + j = s.data.toList.length ∨ j = 11 ∨ ∃ c, s.data.toList[i + j]? = some c ∧ isDig c = false from .inr (.inl (by omega)))
        go_wp2_with fail
        go_ret2
        exact ⟨j, hj, by simpa using hij, HD.out, HE.out, ret_ints (by rw [HV.out]) rfl, rfl⟩
    · have HE := Lib.hid (show i + j = s.data.toList.length ∨ j = 11 ∨ ∃ c, s.data.toList[i + j]? = some c ∧ isDig c = false from .inl (by simp; omega))
      go_wp2_with fail
      go_ret2
      exact ⟨j, hj, by simpa using hij, HD.out, HE.out, ret_ints (by rw [HV.out]) rfl, rfl⟩
end Go.Proofs.YtbdihcpehadbjaaDoor
