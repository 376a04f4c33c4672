/- The law FracTexts: the walk. -/
import Derived.Test.YtbdihcpehadbjaaDoorTg
import Derived.Test.YtbdihcpehadbjaaDoorLe
namespace Go.Proofs.YtbdihcpehadbjaaDoor
open Go.RowKit

set_option maxRecDepth 100000 in
set_option maxHeartbeats 3200000 in
theorem fracTexts_long (n d : Int) (s : ByteArray) (w : World) (hp : PW w) (hs : s.size ≤ 9223372036854775807) (hl : 200 < s.size) :
    Calls Tryd.prog 10 #[.agg #[.int .i64 n, .int .i64 d], .string s] w fun e w' => e = .returned (.bool true) ∧ Below w.heap.size w w' := by
  have hw := below_alloc w (.cells #[.int .i64 n, .int .i64 d] 24)
  have HB := Lib.hid (Bx.new w n d)
  have h2 : decide ((200 : Int) < s.size) = true := by simp; omega
  go_enter Tryd.func10, Tryd.ntmps10
  go_wp2_with fail
  ((with_reducible refine (awake_any _ (hp.tb.below hw)).mono ?_); rintro e wn ⟨rfl, hbn⟩)
  replace hw := below_then hw hbn
  replace HB := Lib.hid (HB.out.below hbn)
  clear hbn
  obtain - := HB.out
  go_wp2_with fail
  go_ret
  exact ⟨rfl, hw⟩

set_option maxRecDepth 100000 in
set_option maxHeartbeats 3200000 in
theorem fracTexts_short (n d : Int) (s : ByteArray) (w : World) (hp : PW w) (hi : i64p (n, d)) (hl : s.size ≤ 200) (p q r : Int) (ok : Bool) (t : Int × Int × Int)
    (hT : t = (p, q, r)) (hP : ∀ W, PW W → Calls Tryd.prog 35 #[.string s] W fun e w' => e = ret3 t ∧ Below W.heap.size W w')
    (hR : ∀ W, Calls Tryd.prog 36 #[.string s] W fun e w' => e = retb p q ok ∧ Below W.heap.size W w')
    (hk : (ok = true ∧ r = 0) ∨ (ok = false ∧ r = 3)) :
    Calls Tryd.prog 10 #[.agg #[.int .i64 n, .int .i64 d], .string s] w fun e w' => e = .returned (.bool true) ∧ Below w.heap.size w w' := by
  have hw := below_alloc w (.cells #[.int .i64 n, .int .i64 d] 24)
  have HB := Lib.hid (Bx.new w n d)
  have z1 := trivial
  have a0 := trivial
  have a1 := trivial
  have h2 : decide ((200 : Int) < s.size) = false := by simp; omega
  have HT := Lib.hid hT; clear hT
  rcases hk with ⟨rfl, rfl⟩ | ⟨rfl, rfl⟩
  all_goals
    go_enter Tryd.func10, Tryd.ntmps10
    go_wp2_with fail
    ((with_reducible refine (awake_any _ (hp.tb.below hw)).mono ?_); rintro e wn ⟨rfl, hbn⟩)
    replace hw := below_then hw hbn
    replace HB := Lib.hid (HB.out.below hbn)
    clear hbn z1 a0 a1
    obtain ⟨z1, a0, a1⟩ := HB.out
    have HL := Lib.hid (Bxs.nil wn)
    have HLn := trivial
    go_wp2_with fail
    ((with_reducible refine (hP _ (hp.below hw)).mono ?_); rintro e wn ⟨rfl, hbn⟩)
    rw [HT.out]
    have hbx := HB.out.below hbn
    replace hw := below_then (below_then hw hbn) (below_alloc wn (.cells #[.int .i64 p, .int .i64 q] 24))
    replace HB := Lib.hid (hbx.below (below_alloc wn (.cells #[.int .i64 p, .int .i64 q] 24)))
    replace HLn := Lib.hid (HL.out.below hbn)
    replace HL := Lib.hid (HLn.out.push p q)
    clear hbn z1 a0 a1
    obtain ⟨z1, a0, a1⟩ := hbx
    unfold ret3
    go_wp2_with fail
    ((with_reducible refine (hR _).mono ?_); rintro e wn ⟨rfl, hbn⟩)
    unfold retb
    replace HB := Lib.hid (HB.out.below hbn)
    replace HL := Lib.hid (HL.out.below hbn)
    clear z1 a0 a1
    obtain ⟨z1, a0, a1⟩ := HB.out
    obtain ⟨z2, b0, b1⟩ := HL.out.head
    replace hw := below_then (below_then hw hbn) (below_alloc wn (.cells #[.int .i64 p, .int .i64 q] 24))
    replace HB := Lib.hid (HB.out.below (below_alloc wn (.cells #[.int .i64 p, .int .i64 q] 24)))
    clear hbn HL HLn
    cases hv : vldB n d
    · go_wp2_with fail
      ((with_reducible refine (text_bad _ _ _ hi hv).mono ?_); rintro e wn ⟨rfl, hbn⟩)
      replace hw := below_then hw hbn
      replace HB := Lib.hid (HB.out.below hbn)
      clear hbn z1 a0 a1
      obtain ⟨z1, a0, a1⟩ := HB.out
      go_wp2_with fail
      ((with_reducible refine (rvalid_any _ _ _ hi).mono ?_); rintro e wn ⟨rfl, hbn⟩)
      replace hw := below_then hw hbn
      replace HB := Lib.hid (HB.out.below hbn)
      clear hbn z1 a0 a1
      obtain ⟨z1, a0, a1⟩ := HB.out
      go_wp2_with fail
      go_ret
      exact ⟨rfl, hw⟩
    · go_wp2_with fail
      ((with_reducible refine (text_ok _ _ _ hv (hp.tb.below hw)).mono ?_); rintro e wn ⟨rfl, hbn⟩)
      replace hw := below_then hw hbn
      replace HB := Lib.hid (HB.out.below hbn)
      clear hbn z1 a0 a1
      obtain ⟨z1, a0, a1⟩ := HB.out
      go_wp2_with fail
      ((with_reducible refine (rvalid_any _ _ _ hi).mono ?_); rintro e wn ⟨rfl, hbn⟩)
      replace hw := below_then hw hbn
      replace HB := Lib.hid (HB.out.below hbn)
      clear hbn z1 a0 a1
      obtain ⟨z1, a0, a1⟩ := HB.out
      go_wp2_with fail
      ((with_reducible refine (parse_text _ n d _ hv rfl (hp.below hw)).mono ?_); rintro e wn ⟨rfl, hbn⟩)
      unfold ret3
      have hbx := HB.out.below hbn
      replace hw := below_then (below_then hw hbn) (below_alloc wn (.cells #[.int .i64 n, .int .i64 d] 24))
      have HC := Lib.hid (hbx.below (below_alloc wn (.cells #[.int .i64 n, .int .i64 d] 24)))
      have HD := Lib.hid (Bx.new wn n d)
      clear hbn z1 a0 a1 HB
      obtain ⟨z1, a0, a1⟩ := hbx
      go_wp2_with fail
      ((with_reducible refine (rtext_any _ _ _ hv).mono ?_); rintro e wm ⟨rfl, hbn⟩)
      replace HC := Lib.hid (HC.out.below hbn)
      replace HD := Lib.hid (HD.out.below hbn)
      replace hw := below_then hw hbn
      clear hbn z1 a0 a1
      obtain ⟨z1, a0, a1⟩ := HC.out
      obtain ⟨z2, b0, b1⟩ := HD.out
      clear HC HD
      go_wp2_with fail
      go_ret
      exact ⟨rfl, hw⟩

theorem fracTexts_walk (n d : Int) (s : ByteArray) (w : World) (hp : PW w) (hi : i64p (n, d)) (hs : s.size ≤ 9223372036854775807) :
    Calls Tryd.prog 10 #[.agg #[.int .i64 n, .int .i64 d], .string s] w fun e w' => e = .returned (.bool true) ∧ Below w.heap.size w w' := by
  by_cases hl : 200 < s.size
  · exact fracTexts_long n d s w hp hs hl
  · by_cases hx : ∃ a b, vldB a b = true ∧ textv a b = s.data.toList
    · obtain ⟨a, b, hv, he⟩ := hx
      exact fracTexts_short n d s w hp hi (by omega) a b 0 true _ rfl (fun W hW => parse_text s a b W hv he.symm hW) (fun W => rparse_text s a b W hv he.symm) (.inl ⟨rfl, rfl⟩)
    · have hno : NoText s.data.toList := fun a b h1 h2 => hx ⟨a, b, h1, h2⟩
      exact fracTexts_short n d s w hp hi (by omega) 0 0 3 false _ rfl (fun W hW => parse_none s W (by omega) hno hW) (fun W => rparse_none s W (by omega) hno) (.inr ⟨rfl, rfl⟩)
end Go.Proofs.YtbdihcpehadbjaaDoor
