/- Parse of package frac and of the reference: the fraction with a text, or none. -/
import Derived.Test.YtbdihcpehadbjaaDoorTf
namespace Go.Proofs.YtbdihcpehadbjaaDoor
open Go.RowKit

/-- no valid fraction has this text -/
def NoText (l : List UInt8) : Prop := ∀ n d, vldB n d = true → textv n d ≠ l
theorem parseR_no {l : List UInt8} (h : NoText l) (n d : Int) : parseR l n d = (0, 0, 3) := by
  unfold parseR; rw [if_neg (fun e => h n d e.1 e.2)]

theorem parse_text (s : ByteArray) (n d : Int) (w : World) (hv : vldB n d = true) (hs : s.data.toList = textv n d) (hp : PW w) :
    Calls Tryd.prog 35 #[.string s] w fun e w' => e = ret3 (n, d, 0) ∧ Below w.heap.size w w' := by
  have hl := textv_len n d hv
  obtain ⟨p1, p2, p3, p4, _⟩ := vldB_parts hv
  have hsz : s.size ≤ 30 := by rw [Lib.size_eq s, hs]; omega
  have hR : parseR s.data.toList n d = (n, d, 0) := by unfold parseR; rw [if_pos ⟨hv, hs.symm⟩]
  by_cases h1 : d = 1
  · subst h1
    refine (parse_whole s (Lib.itoa n) [] n w hsz hp (by rw [hs]; exact cut_text1 n) (itoa_atoi n (by omega) (by omega))).mono fun e w' ⟨h1, h2⟩ => ⟨by rw [h1, hR], h2⟩
  · refine (parse_two s (Lib.itoa n) (Lib.itoa d) n d w hsz hp (by rw [hs]; exact cut_text2 n d h1) (itoa_atoi n (by omega) (by omega)) (itoa_atoi d (by omega) (by omega))).mono fun e w' ⟨h1, h2⟩ => ⟨by rw [h1, hR], h2⟩
theorem parse_none (s : ByteArray) (w : World) (hs : s.size ≤ 281474976710656) (hno : NoText s.data.toList) (hp : PW w) :
    Calls Tryd.prog 35 #[.string s] w fun e w' => e = ret3 (0, 0, 3) ∧ Below w.heap.size w w' := by
  by_cases h30 : 30 < s.size
  · exact parse_long s w h30 hs
  · obtain ⟨a, b, c, hc⟩ : ∃ a b c, Lib.cut s.data.toList [47] = (a, b, c) := ⟨_, _, _, rfl⟩
    by_cases ha : ∃ v, Lib.atoiAll a = .ok v
    · obtain ⟨v, ha⟩ := ha
      cases c
      · exact (parse_whole s a b v w (by omega) hp hc ha).mono fun e w' ⟨h1, h2⟩ => ⟨by rw [h1, parseR_no hno], h2⟩
      · by_cases hb : ∃ u, Lib.atoiAll b = .ok u
        · obtain ⟨u, hb⟩ := hb
          exact (parse_two s a b v u w (by omega) hp hc ha hb).mono fun e w' ⟨h1, h2⟩ => ⟨by rw [h1, parseR_no hno], h2⟩
        · exact parse_two_bad2 s a b v w (by omega) hp hc ha (fun u hu => hb ⟨u, hu⟩)
    · have ha' : ∀ v, Lib.atoiAll a ≠ .ok v := fun v hv => ha ⟨v, hv⟩
      cases c
      · exact parse_whole_bad s a b w (by omega) hp hc ha'
      · by_cases hb : ∃ u, Lib.atoiAll b = .ok u
        · obtain ⟨u, hb⟩ := hb
          exact parse_two_bad1 s a b w (by omega) hp hc ha' u hb
        · exact parse_two_bad3 s a b w (by omega) hp hc ha' (fun u hu => hb ⟨u, hu⟩)
theorem rparse_text (s : ByteArray) (n d : Int) (w : World) (hv : vldB n d = true) (hs : s.data.toList = textv n d) :
    Calls Tryd.prog 36 #[.string s] w fun e w' => e = retb n d true ∧ Below w.heap.size w w' := by
  have hl := textv_len n d hv
  have hsz : s.size ≤ 30 := by rw [Lib.size_eq s, hs]; omega
  refine (rparse_any s w (by omega)).mono fun e w' ⟨N, D, K, hg, he, hb⟩ => ⟨?_, hb⟩
  rw [hs] at hg he
  obtain ⟨rfl, rfl, hK⟩ := guess_text n d N D K hv hg
  rw [he, if_pos ⟨hK, hv, rfl⟩]
theorem rparse_none (s : ByteArray) (w : World) (hs : s.size ≤ 281474976710656) (hno : NoText s.data.toList) :
    Calls Tryd.prog 36 #[.string s] w fun e w' => e = retb 0 0 false ∧ Below w.heap.size w w' :=
  (rparse_any s w (by omega)).mono fun e w' ⟨N, D, K, _, he, hb⟩ => ⟨by rw [he, if_neg (fun h => hno N D h.2.1 h.2.2)], hb⟩
end Go.Proofs.YtbdihcpehadbjaaDoor
