/- Values of the program: text, number, Valid, Text: what a call returns. -/
import Derived.Test.YtbbdgncjpbfooaaGreatDoorEf
import Derived.Laws.IdiomStrings
namespace Go.Proofs.YtbbdgncjpbfooaaGreatDoor
open Go.RowKit

/-- a slice of bytes reads as a list -/
def BIn (w : World) (A : Option Addr) (l : List UInt8) : Prop :=
  ∀ i (h : i < l.length), ∃ ad, A = some ad ∧ (ad.add i).block < w.heap.size ∧ w.cell? (ad.add i) = some (.int .u8 (l[i].toNat : Int))
theorem BIn.below {w w' : World} {A : Option Addr} {l : List UInt8} (h : BIn w A l) (hb : Below w.heap.size w w') : BIn w' A l := by
  intro i hi
  obtain ⟨ad, e, hl, h0⟩ := h i hi
  exact ⟨ad, e, by have := hb.size; omega, by rw [hb.cell hl]; exact h0⟩
/-- a string turned into bytes -/
theorem conv_bytes (s : ByteArray) : ∃ (cp : World → Nat) (nw : World → World), (∀ w, (convert 9 97 (.string s)).run Tryz.prog w = .ok (.slice (some ⟨w.heap.size, 0, none⟩) s.size (cp w)) (nw w)) ∧
    (∀ w, Below w.heap.size w (nw w)) ∧ (∀ w, BIn (nw w) (some ⟨w.heap.size, 0, none⟩) s.data.toList) := by
  refine ⟨fun w => grownCap w s.size 0 5, fun w => w.drew.alloc (.cells (bytesRow s (grownCap w s.size 0 5)) 5 ((bytesRow s (grownCap w s.size 0 5)).size, (bytesRow s (grownCap w s.size 0 5)).size + 1)), fun w => run_bytes_of_string w _ _ _ s Tryz.underlying9 Tryz.underlying97 Tryz.underlying5, fun w => ?_, fun w => ?_⟩
  · exact ((Below.refl _ _).drew).alloc (Nat.le_refl _) _
  · intro i hi
    have hi' : i < s.data.size := by simpa using hi
    refine ⟨_, rfl, ?_, ?_⟩
    · have : ∀ (w : World) (o : Obj), w.heap.size < (w.drew.alloc o).heap.size := fun w o => by show _ < (w.heap.push o).size; simp
      unfold Addr.add; split <;> exact this w _
    · rw [add_zero, Nat.zero_add]
      have hh : ∀ (C : Array Value) (fz : Nat × Nat), (w.drew.alloc (.cells C 5 fz)).heap[w.heap.size]? = some (.cells C 5 fz) := fun C fz => by
        show (w.heap.push _)[w.heap.size]? = _; simp
      unfold World.cell?
      simp only [hh]
      have hr := bytesRow_at s (grownCap w s.size 0 5) i hi'
      simp only [hr]
      simp
theorem pr_is (c : UInt8) (h1 : 32 ≤ (c.toNat : Int)) (h2 : (c.toNat : Int) ≤ 126) : isPr c = true := by unfold isPr; simp; omega
theorem pr_lo (c : UInt8) (h1 : (c.toNat : Int) < 32) : isPr c = false := by unfold isPr; simp; omega
theorem pr_hi (c : UInt8) (h1 : 126 < (c.toNat : Int)) : isPr c = false := by unfold isPr; simp; omega
set_option maxHeartbeats 400000 in
theorem vt1_any (c : UInt8) (w : World) : Calls Tryz.prog 104 #[.int .u8 (c.toNat : Int)] w fun e w' => e = .returned (.bool (!(isPr c))) ∧ w = w' := by
  by_cases h1 : (c.toNat : Int) < 32
  · have HV := Lib.hid (pr_lo c h1)
    go_enter Tryz.func104, Tryz.ntmps104
    go_wp2_with fail
    go_ret
    exact ⟨ret_bool (by rw [HV.out]; rfl), rfl⟩
  · by_cases h2 : 126 < (c.toNat : Int)
    · have HV := Lib.hid (pr_hi c h2)
      have d1 : decide ((c.toNat : Int) < 32) = false := by simp; omega
      go_enter Tryz.func104, Tryz.ntmps104
      go_wp2_with fail
      go_ret
      exact ⟨ret_bool (by rw [HV.out]; rfl), rfl⟩
    · have HV := Lib.hid (pr_is c (by omega) (by omega))
      have d1 : decide ((c.toNat : Int) < 32) = false := by simp; omega
      have d2 : decide (126 < (c.toNat : Int)) = false := by simp; omega
      go_enter Tryz.func104, Tryz.ntmps104
      go_wp2_with fail
      go_ret
      exact ⟨ret_bool (by rw [HV.out]; rfl), rfl⟩
/-- IndexFunc's answer says whether there is such a byte -/
def BIdx (r : Bool) (w : World) (e : Ending) (w' : World) : Prop := (if r then e = .returned (.int .i64 (-1)) else ∃ i : Nat, e = .returned (.int .i64 i)) ∧ Below w.heap.size w w'
theorem BIdx.yes {r : Bool} {w w' : World} {e : Ending} {i : Nat} (h : r = false) (he : e = .returned (.int .i64 i)) (hb : Below w.heap.size w w') : BIdx r w e w' := by subst h; exact ⟨⟨i, he⟩, hb⟩
theorem BIdx.no {r : Bool} {w w' : World} {e : Ending} (h : r = true) (he : e = .returned (.int .i64 (-1))) (hb : Below w.heap.size w w') : BIdx r w e w' := by subst h; exact ⟨he, hb⟩
set_option maxHeartbeats 1600000 in
theorem bidx_any (A : Option Addr) (n cap : Nat) (l : List UInt8) (w : World) (h : BIn w A l) (hn : l.length = n) (hn4 : n ≤ 1000000) :
    Calls Tryz.prog 124 #[.slice A n cap, .func (.func 104) #[] #[]] w (BIdx (l.all isPr) w) := by
  have H0 := Lib.hid h; clear h
  have HN := Lib.hid hn; clear hn
  go_enter Tryz.func124, Tryz.ntmps124
  go_wp2_with fail
  go_loopg [8] (n) (fun g i wr => ∃ k : Nat, k + g = n ∧ i = .int .i64 k ∧ (l.take k).all isPr = true ∧ Below w.heap.size w wr)
  case atStart => exact ⟨0, by omega, rfl, by simp, Below.refl _ _⟩
  case round =>
    obtain ⟨k, hk, rfl, hno, hB⟩ := hrel
    have HK := Lib.hid hk
    have HNo := Lib.hid hno
    have HB := Lib.hid hB
    have HT := Lib.hid (H0.out.below hB)
    have hle : k ≤ n := by omega
    clear hk hno hB
    by_cases hlt : k < n
    · have hlt' : k < l.length := by rw [HN.out]; exact hlt
      obtain ⟨ad, rfl, hp, c0⟩ := HT.out k hlt'
      have hm : l[k] ∈ l := List.getElem_mem hlt'
      have HTk := Lib.hid (List.take_succ_eq_append_getElem hlt')
      have HM := Lib.hid hm
      clear hm
      generalize l[k] = x at *
      have HX := Lib.hid (fun w => vt1_any x w)
      cases hv : isPr x with
      | false =>
        rw [hv] at HX
        have HV := Lib.hid hv; clear hv
        go_wp2_with fail
        ((with_reducible refine (HX.out _).mono ?_); rintro e w1 ⟨rfl, rfl⟩)
        go_wp2_with fail
        go_ret
        refine BIdx.yes ?_ rfl HB.out
        rw [List.all_eq_false]
        exact ⟨x, HM.out, by rw [HV.out]; simp⟩
      | true =>
        rw [hv] at HX
        have HV := Lib.hid hv; clear hv
        go_wp2_with fail
        ((with_reducible refine (HX.out _).mono ?_); rintro e w1 ⟨rfl, rfl⟩)
        go_wp2_with fail
        go_roundg (gk - 1)
        case measure => have := HK.out; omega
        case rel => exact ⟨k + 1, by have := HK.out; omega, by go_num, by rw [HTk.out, List.all_append, HNo.out]; simp [HV.out], HB.out⟩
    · have HE := Lib.hid (show l.take k = l from List.take_of_length_le (by have := HN.out; omega))
      go_wp2_with fail
      go_ret
      refine BIdx.no ?_ rfl HB.out
      rw [← HE.out]; exact HNo.out
set_option maxHeartbeats 800000 in
theorem bcont_any (A : Option Addr) (n cap : Nat) (l : List UInt8) (w : World) (h : BIn w A l) (hn : l.length = n) (hn4 : n ≤ 1000000) :
    Calls Tryz.prog 103 #[.slice A n cap, .func (.func 104) #[] #[]] w fun e w' => e = .returned (.bool (!(l.all isPr))) ∧ Below w.heap.size w w' := by
  have HI := Lib.hid (bidx_any A n cap l w h hn hn4)
  clear h hn
  generalize l.all isPr = r at HI ⊢
  cases r with
  | true =>
    go_enter Tryz.func103, Tryz.ntmps103
    go_wp2_with fail
    ((with_reducible refine HI.out.mono ?_); rintro e w1 hP)
    obtain ⟨he, hb⟩ := hP
    have he' : e = .returned (.int .i64 (-1)) := he
    clear he; subst he'
    go_wp2_with fail
    go_ret
    exact ⟨rfl, hb⟩
  | false =>
    go_enter Tryz.func103, Tryz.ntmps103
    go_wp2_with fail
    ((with_reducible refine HI.out.mono ?_); rintro e w1 hP)
    obtain ⟨he, hb⟩ := hP
    obtain ⟨i, he'⟩ : ∃ i : Nat, e = .returned (.int .i64 i) := he
    subst he'
    go_wp2_with fail
    go_ret
    exact ⟨rfl, hb⟩
set_option maxHeartbeats 800000 in
theorem vtext_any (s : ByteArray) (w : World) (hs : s.size ≤ 9223372036854775807) :
    Calls Tryz.prog 83 #[.string s] w fun e w' => e = .returned (.bool (decide (s.size ≤ 200) && s.data.toList.all isPr)) ∧ Below w.heap.size w w' := by
  by_cases h : s.size ≤ 200
  · have q : (s.size : Int) ≤ 200 := by omega
    have HV := Lib.hid (show decide (s.size ≤ 200) = true by simpa using h)
    obtain ⟨cp, nw, hc, hb, hi⟩ := conv_bytes s
    have HB := Lib.hid hb
    have HI := Lib.hid hi
    have HC := Lib.hid (fun w => bcont_any (some ⟨w.heap.size, 0, none⟩) s.size (cp w) s.data.toList (nw w) (hi w) (len_byte s) (by omega))
    generalize s.data.toList.all isPr = r at HC ⊢
    clear hb hi h
    go_enter Tryz.func83, Tryz.ntmps83
    go_wp2_with fail
    ((with_reducible refine (HC.out _).mono ?_); rintro e w1 ⟨rfl, hb1⟩)
    go_wp2_with fail
    go_ret
    exact ⟨ret_bool (by rw [HV.out]; simp), below_then (HB.out w) hb1⟩
  · have q : (200 : Int) < (s.size : Int) := by omega
    have HV : decide (s.size ≤ 200) = false := by simpa using h
    go_enter Tryz.func83, Tryz.ntmps83
    go_wp2_with fail
    go_ret
    exact ⟨rfl, Below.refl _ _⟩
end Go.Proofs.YtbbdgncjpbfooaaGreatDoor
