/- valid of package frac (all of a list): what a call returns. -/
import Derived.Test.YtbdihcpehadbjaaDoorFd
namespace Go.Proofs.YtbdihcpehadbjaaDoor
open Go.RowKit

/-- the numbers of a fraction are ints -/
def i64p (p : Int × Int) : Prop := -9223372036854775808 ≤ p.1 ∧ p.1 ≤ 9223372036854775807 ∧ -9223372036854775808 ≤ p.2 ∧ p.2 ≤ 9223372036854775807
/-- from an address on there lie fractions -/
def FrL (w : World) (b off : Nat) (l : List (Int × Int)) : Prop :=
  ∀ i, i < l.length → i64p (l.getD i (0, 0)) ∧ w.cell? ⟨b, off + i * 2, none⟩ = some (.int .i64 (l.getD i (0, 0)).1) ∧ w.cell? ⟨b, off + i * 2 + 1, none⟩ = some (.int .i64 (l.getD i (0, 0)).2)

set_option maxHeartbeats 800000 in
theorem indexf_any (b off cap : Nat) (l : List (Int × Int)) (w : World) (hl : l.length ≤ 9223372036854775807) (hb : b < w.heap.size) (hF : FrL w b off l) :
    Calls Tryd.prog 56 #[.slice (some ⟨b, off, none⟩) l.length cap, .func (.func 51) #[] #[]] w fun e w' => ∃ n : Int, e = .returned (.int .i64 n) ∧ (0 ≤ n ↔ ¬ (l.all fun p => vldB p.1 p.2) = true) ∧ Below w.heap.size w w' := by
  have HF := Lib.hid hF; clear hF
  go_enter Tryd.func56, Tryd.ntmps56
  go_wp2_with fail
  go_loopw [5, 8] (fun _ i wr => ∃ k : Nat, k ≤ l.length ∧ i = .int .i64 k ∧ ((l.take k).all fun p => vldB p.1 p.2) = true ∧ Below w.heap.size w wr) (fun _ i _ => l.length - (intOf i).toNat)
  case atStart => exact ⟨0, Nat.zero_le _, rfl, rfl, Below.refl _ _⟩
  case round =>
    obtain ⟨k, hk, rfl, hall, hbl⟩ := hrel
    have HA := Lib.hid hall; clear hall
    by_cases hlt : k < l.length
    · obtain ⟨hin, hc0, hc1⟩ := HF.out k hlt
      have e0 : l.getD k (0, 0) = l[k] := by simp [hlt]
      rw [e0] at hin hc0 hc1
      clear e0
      obtain ⟨i1, i2, i3, i4⟩ := hin
      obtain ⟨hcb, hfb⟩ := bcell hbl
      have hc0' : wr.cell? ⟨b, off + k * 2, none⟩ = some (.int .i64 l[k].1) := by rw [hcb _ _ hb]; exact hc0
      have hc1' : wr.cell? ⟨b, off + k * 2 + 1, none⟩ = some (.int .i64 l[k].2) := by rw [hcb _ _ hb]; exact hc1
      clear hc0 hc1 hcb hfb
      cases hv : vldB l[k].1 l[k].2
      · have HN := Lib.hid (show ¬ (l.all fun p => vldB p.1 p.2) = true by intro hA; have := List.all_eq_true.1 hA l[k] (List.getElem_mem hlt); rw [hv] at this; cases this)
        go_wp2_with fail
        ((with_reducible refine (invalid1_any _ _ _ (by omega) (by omega) (by omega) (by omega)).mono ?_); rintro e w1 ⟨rfl, hb1⟩)
        go_wp2_with fail
        go_ret
        exact ⟨k, rfl, ⟨fun _ => HN.out, fun _ => by omega⟩, hbl.trans (hb1.mono hbl.size)⟩
      · have HS := Lib.hid (show ((l.take (k + 1)).all fun p => vldB p.1 p.2) = true by rw [List.take_succ_eq_append_getElem hlt, List.all_append, HA.out]; simp [hv])
        go_wp2_with fail
        ((with_reducible refine (invalid1_any _ _ _ (by omega) (by omega) (by omega) (by omega)).mono ?_); rintro e w1 ⟨rfl, hb1⟩)
        go_wp2_with fail
        go_roundw
        case rel => exact ⟨k + 1, by omega, by go_num, HS.out, hbl.trans (hb1.mono hbl.size)⟩
        case measure => simp [intOf]; omega
    · have HL := Lib.hid (show (l.all fun p => vldB p.1 p.2) = true by have := HA.out; rwa [List.take_of_length_le (by omega)] at this)
      go_wp2_with fail
      go_ret
      exact ⟨-1, rfl, ⟨fun h => by omega, fun h => absurd HL.out h⟩, hbl⟩

/-- a slice value of fractions: nil, or fractions in memory -/
def FrS (w : World) (v : Value) (l : List (Int × Int)) : Prop :=
  (v = .slice none 0 0 ∧ l = []) ∨ ∃ b off cap, v = .slice (some ⟨b, off, none⟩) l.length cap ∧ b < w.heap.size ∧ FrL w b off l ∧ l.length ≤ 9223372036854775807
theorem FrS.below {w w' : World} {v : Value} {l : List (Int × Int)} (h : FrS w v l) (hb : Below w.heap.size w w') : FrS w' v l := by
  rcases h with h | ⟨b, off, cap, h1, h2, h3, h4⟩
  · exact .inl h
  · refine .inr ⟨b, off, cap, h1, Nat.lt_of_lt_of_le h2 hb.size, fun i hi => ?_, h4⟩
    obtain ⟨a1, a2, a3⟩ := h3 i hi
    exact ⟨a1, by rw [hb.cell (p := ⟨b, off + i * 2, none⟩) h2]; exact a2, by rw [hb.cell (p := ⟨b, off + i * 2 + 1, none⟩) h2]; exact a3⟩
/-- all fractions of a list are valid -/
def vldL (l : List (Int × Int)) : Bool := l.all fun p => vldB p.1 p.2

set_option maxHeartbeats 800000 in
theorem indexf_nil (w : World) :
    Calls Tryd.prog 56 #[.slice none 0 0, .func (.func 51) #[] #[]] w fun e w' => e = .returned (.int .i64 (-1)) ∧ Below w.heap.size w w' := by
  go_enter Tryd.func56, Tryd.ntmps56
  go_wp2_with fail
  go_loopw [5, 8] (fun _ i wr => i = .int .i64 0 ∧ Below w.heap.size w wr) (fun _ i _ => 0 - (intOf i).toNat)
  case atStart => exact ⟨rfl, Below.refl _ _⟩
  case round =>
    obtain ⟨rfl, hbl⟩ := hrel
    go_wp2_with fail
    go_ret
    exact ⟨rfl, hbl⟩

set_option maxHeartbeats 800000 in
theorem containsf_any (v : Value) (l : List (Int × Int)) (w : World) (h : FrS w v l) :
    Calls Tryd.prog 50 #[v, .func (.func 51) #[] #[]] w fun e w' => e = .returned (.bool (!vldL l)) ∧ Below w.heap.size w w' := by
  rcases h with ⟨rfl, rfl⟩ | ⟨b, off, cap, rfl, h2, h3, h4⟩
  · go_enter Tryd.func50, Tryd.ntmps50
    go_wp2_with fail
    ((with_reducible refine (indexf_nil _).mono ?_); rintro e w1 ⟨rfl, hb1⟩)
    go_wp2_with fail
    go_ret
    exact ⟨rfl, hb1⟩
  · have H3 := Lib.hid h3; clear h3
    go_enter Tryd.func50, Tryd.ntmps50
    go_wp2_with fail
    ((with_reducible refine (indexf_any b off cap l _ h4 h2 H3.out).mono ?_); rintro e w1 ⟨n, rfl, hn, hb1⟩)
    have HN := Lib.hid hn; clear hn
    go_wp2_with fail
    go_ret
    exact ⟨ret_bool (by have := HN.out; unfold vldL; cases hA : (l.all fun p => vldB p.1 p.2) <;> simp [hA] at this ⊢ <;> omega), hb1⟩

set_option maxHeartbeats 800000 in
theorem valid_any (v : Value) (l : List (Int × Int)) (w : World) (h : FrS w v l) :
    Calls Tryd.prog 42 #[v] w fun e w' => e = .returned (.bool (vldL l)) ∧ Below w.heap.size w w' := by
  have H := Lib.hid h; clear h
  go_enter Tryd.func42, Tryd.ntmps42
  go_wp2_with fail
  ((with_reducible refine (containsf_any v l _ H.out).mono ?_); rintro e w1 ⟨rfl, hb1⟩)
  go_wp2_with fail
  go_ret
  exact ⟨ret_bool (by simp), hb1⟩
end Go.Proofs.YtbdihcpehadbjaaDoor
