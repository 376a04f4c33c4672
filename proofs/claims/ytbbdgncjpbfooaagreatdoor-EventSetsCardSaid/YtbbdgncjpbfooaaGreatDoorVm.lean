/- casebookref02.read: what a call returns. casebookref02.Words: what a call returns. casebookref02.Unquote and casebookref09.Text: what a call returns. casebookref09.decimal: what a call returns. casebookref09.Parse: what a call returns. casebookref11.field: what a call returns. casebookref02.bare, and casebookref02.Join at printable strings whose line is short: what a call returns. casebookref11.Word and number: what a call returns. -/
import Derived.Test.YtbbdgncjpbfooaaGreatDoorEh
import Derived.Test.YtbbdgncjpbfooaaGreatDoorNc
import Derived.Test.YtbbdgncjpbfooaaGreatDoorEr
import Derived.Test.YtbbdgncjpbfooaaGreatDoorEi
import Derived.Test.YtbbdgncjpbfooaaGreatDoorVa
import Derived.Test.YtbbdgncjpbfooaaGreatDoorEo
import Derived.Test.YtbbdgncjpbfooaaGreatDoorEf
import Derived.Test.YtbbdgncjpbfooaaGreatDoorEn
import Derived.Lib.AppendStr
namespace Go.Proofs.YtbbdgncjpbfooaaGreatDoor
section
open Go.RowKit

theorem RB.start0 (w : World) : RB w w (.slice none 0 0) [] := ⟨World.ownsRow_nil _ _ _ _, Below.refl _ _⟩
set_option maxRecDepth 100000 in
theorem conv_all (w : World) (B n cap : Nat) (a : Option Addr) (l : List UInt8) (hn : n = l.length) (h : w.ownsRow B 5 1 (.slice a n cap) n (Lib.byteCells l)) :
    (convert 97 9 (.slice a n cap)).run Tryz.prog w = .ok (.string ⟨l.toArray⟩) w := by
  rcases Nat.eq_zero_or_pos l.length with h0 | h0
  · have hl : l = [] := List.eq_nil_of_length_eq_zero h0
    subst hl
    obtain rfl : n = 0 := hn
    cases a <;> rfl
  · exact conv_own w B n cap a l hn h0 h
/-- what read returns -/
def RdPost (R : Except Nat (List UInt8 × Nat)) (w : World) (e : Ending) (w' : World) : Prop := match R with
  | .ok (t, n) => e = .returned (.tuple #[.string ⟨t.toArray⟩, .int .i64 ((n : Int) + 1), .int .i64 0]) ∧ Below w.heap.size w w'
  | .error k => e = .returned (.tuple #[.string ⟨#[]⟩, .int .i64 0, .int .i64 (k : Int)]) ∧ Below w.heap.size w w'
theorem RdPost.ok {R : Except Nat (List UInt8 × Nat)} {w w' : World} {e : Ending} {t : List UInt8} {n : Nat} (hR : R = .ok (t, n)) (he : e = .returned (.tuple #[.string ⟨t.toArray⟩, .int .i64 ((n : Int) + 1), .int .i64 0])) (hb : Below w.heap.size w w') : RdPost R w e w' := by subst hR; exact ⟨he, hb⟩
theorem RdPost.err {R : Except Nat (List UInt8 × Nat)} {w w' : World} {e : Ending} {k : Nat} (hR : R = .error k) (he : e = .returned (.tuple #[.string ⟨#[]⟩, .int .i64 0, .int .i64 (k : Int)])) (hb : Below w.heap.size w w') : RdPost R w e w' := by subst hR; exact ⟨he, hb⟩
theorem litA_nil (acc : List UInt8) (k : Nat) : litA acc k [] = .error 4 := rfl
set_option maxHeartbeats 6400000 in
set_option maxRecDepth 100000 in
theorem rread_any (s : ByteArray) (m : List UInt8) (w : World) (hm : s.data.toList = 34 :: m) (hs : s.size ≤ 1099511627776) :
    Calls Tryz.prog 78 #[.string s] w (RdPost (litF m) w) := by
  generalize hR : litF m = R
  have HR := Lib.hid (show litA [] 0 (s.data.toList.drop 1) = R by rw [litA_start, hm, ← hR]; rfl)
  have hsz : 1 ≤ s.size := by rw [← len_byte, hm]; simp
  obtain ⟨i0, hi, hz0, hz1, hz2⟩ := info_parts byteInfo
  have HI := Lib.hid (And.intro hi (And.intro hz0 (And.intro hz1 hz2)))
  have H0 := Lib.hid (RB.start0 w)
  clear hi hz0 hz1 hz2 hR hm
  go_enter Tryz.func78, Tryz.ntmps78
  go_wp2_with fail
  go_loopg [5, 6] (s.size) (fun g v i wr => ∃ (p : Nat) (acc : List UInt8), p + 1 ≤ s.size ∧ s.size ≤ p + 1 + g ∧ acc.length ≤ p ∧ i = .int .i64 ((p : Int) + 1) ∧ litA acc p (s.data.toList.drop (p + 1)) = R ∧ RB w wr v acc)
  case atStart => exact ⟨0, [], by omega, by omega, by simp, rfl, HR.out, H0.out⟩
  case round =>
    obtain ⟨p, acc, hp1, hp2, hpa, rfl, hI, hRB⟩ := hrel
    have HIv := Lib.hid hI
    have HS := Lib.hid hRB
    have HG := Lib.hid hp2
    obtain ⟨vo, vc, rfl⟩ := hRB.slice
    clear hI hRB hp2 H0 HR
    by_cases hlt : p + 1 < s.size
    · have HC := Lib.hid (drop_byte s (p + 1) hlt)
      rw [HC.out] at HIv
      have hlti : (p : Int) + 1 < (s.size : Int) := by omega
      by_cases h34 : (s[p + 1].toNat : Int) = 34
      · have q1 : ((s[p + 1].toNat : Int) == 34) = true := by rw [h34]; rfl
        have HV := Lib.hid (show R = .ok (acc, p + 1) by rw [← HIv.out, litA_end _ _ _ _ h34])
        have HCV := Lib.hid (conv_all wr w.heap.size acc.length vc vo acc rfl HS.out.own)
        clear h34
        go_wp2_with fail
        rw [HCV.out]
        simp only [Result.andThen]
        rw [Oper.upon_value]
        go_wp2_with fail
        go_ret3
        exact RdPost.ok HV.out (by congr 3) HS.out.2
      have q1 : ((s[p + 1].toNat : Int) == 34) = false := by simp; omega
      have H34 := Lib.hid h34; clear h34
      by_cases h92 : (s[p + 1].toNat : Int) = 92
      · have q2 : ((s[p + 1].toNat : Int) == 92) = true := by rw [h92]; rfl
        have H92 := Lib.hid h92; clear h92
        by_cases hl2 : p + 1 + 1 < s.size
        · have HC2 := Lib.hid (drop_byte s (p + 1 + 1) hl2)
          rw [HC2.out] at HIv
          have hl2i : (p : Int) + 1 + 1 < (s.size : Int) := by omega
          have q3 : ((p : Int) + 1 + 1 == (s.size : Int)) = false := by rw [beq_eq_false_iff_ne]; omega
          by_cases hd : (s[p + 1 + 1].toNat : Int) = 34 ∨ (s[p + 1 + 1].toNat : Int) = 92
          · have HV := Lib.hid (show litA (acc ++ [s[p + 1 + 1]]) (p + 2) (s.data.toList.drop (p + 2 + 1)) = R by rw [← HIv.out, litA_esc _ _ _ _ _ H92.out hd])
            have hdd : ((s[p + 1 + 1].toNat : Int) != 34) = false ∨ (((s[p + 1 + 1].toNat : Int) != 34) = true ∧ ((s[p + 1 + 1].toNat : Int) != 92) = false) := by
              rcases hd with h | h
              · exact .inl (by rw [h]; rfl)
              · exact .inr ⟨by rw [h]; rfl, by rw [h]; rfl⟩
            clear hd
            rcases hdd with q4 | ⟨q4, q5⟩
            all_goals
              go_wp2_with (at_builtin; refine wpList_append_own _ rfl _ _ 97 rfl w.heap.size 5 i0 (.int .u8 0) 1 1 Tryz.underlying97 HI.out.1 HI.out.2.1 HI.out.2.2.1 HI.out.2.2.2 rfl (by decide) (.slice vo acc.length vc) _ _ rfl (HS.out.own.alloc _) ⟨wr.heap.size, 0, none⟩ 1 1 [.int .u8 ((s[p + 1 + 1]).toNat : Int)] rfl rfl ?c1 ?c2 ?c3 ?c4 ?c5 ?_)
              case c1 => intro j u hj; match j, hj with | 0, hj => simp at hj; subst hj; simp [Addr.add] | j + 1, hj => simp at hj
              case c2 => intro u hu; simp at hu; subst hu; rfl
              case c3 => unfold maxLen; omega
              case c4 => omega
              case c5 => have := HS.out.size; simp; omega
              intro vN w2 hown hgrow _
              replace HS := Lib.hid (HS.out.push (c := s[p + 1 + 1]) (by simpa using hown) hgrow (own_len _ _ _ _))
              clear hown hgrow
              obtain ⟨vo, vc, rfl⟩ := HS.out.slice
              go_wp2_with fail
              go_roundg (gk - 1)
              case measure => have := HG.out; omega
              case rel => exact ⟨p + 2, acc ++ [s[p + 1 + 1]], by omega, by have := HG.out; omega, by simp; omega, by go_num, HV.out, by simpa using HS.out⟩
          · have HV := Lib.hid (show R = .error 3 by rw [← HIv.out, litA_esb _ _ _ _ _ H92.out (by omega)])
            have q4 : ((s[p + 1 + 1].toNat : Int) != 34) = true := by simp; omega
            have q5 : ((s[p + 1 + 1].toNat : Int) != 92) = true := by simp; omega
            clear hd
            go_wp2_with fail
            go_ret3
            exact RdPost.err HV.out rfl HS.out.2
        · have HV := Lib.hid (show R = .error 4 by rw [← HIv.out, List.drop_eq_nil_of_le (by rw [len_byte]; omega), litA_bs _ _ _ H92.out])
          have q3 : ((p : Int) + 1 + 1 == (s.size : Int)) = true := by rw [beq_iff_eq]; omega
          clear hl2
          go_wp2_with fail
          go_ret3
          exact RdPost.err HV.out rfl HS.out.2
      · have q2 : ((s[p + 1].toNat : Int) == 92) = false := by simpa using h92
        have HV := Lib.hid (show litA (acc ++ [s[p + 1]]) (p + 1) (s.data.toList.drop (p + 1 + 1)) = R by rw [← HIv.out, litA_next _ _ _ _ H34.out h92])
        clear h92
        go_wp2_with (at_builtin; refine wpList_append_own _ rfl _ _ 97 rfl w.heap.size 5 i0 (.int .u8 0) 1 1 Tryz.underlying97 HI.out.1 HI.out.2.1 HI.out.2.2.1 HI.out.2.2.2 rfl (by decide) (.slice vo acc.length vc) _ _ rfl (HS.out.own.alloc _) ⟨wr.heap.size, 0, none⟩ 1 1 [.int .u8 ((s[p + 1]).toNat : Int)] rfl rfl ?c1 ?c2 ?c3 ?c4 ?c5 ?_)
        case c1 => intro j u hj; match j, hj with | 0, hj => simp at hj; subst hj; simp [Addr.add] | j + 1, hj => simp at hj
        case c2 => intro u hu; simp at hu; subst hu; rfl
        case c3 => unfold maxLen; omega
        case c4 => omega
        case c5 => have := HS.out.size; simp; omega
        intro vN w2 hown hgrow _
        replace HS := Lib.hid (HS.out.push (c := s[p + 1]) (by simpa using hown) hgrow (own_len _ _ _ _))
        clear hown hgrow
        obtain ⟨vo, vc, rfl⟩ := HS.out.slice
        go_wp2_with fail
        go_roundg (gk - 1)
        case measure => have := HG.out; omega
        case rel => exact ⟨p + 1, acc ++ [s[p + 1]], by omega, by have := HG.out; omega, by simp; omega, by go_num, HV.out, by simpa using HS.out⟩
    · have HV := Lib.hid (show R = .error 4 by rw [← HIv.out, List.drop_eq_nil_of_le (by rw [len_byte]; omega), litA_nil])
      go_wp2_with fail
      go_ret3
      exact RdPost.err HV.out rfl HS.out.2
end
section
open Go.RowKit

/-- while a line is read by the reference: the words so far -/
def RWs (w wr : World) (v : Value) (out : List (List UInt8)) : Prop := wr.ownsRow w.heap.size 9 1 v out.length (out.map strV) ∧ Below w.heap.size w wr
theorem RWs.start (w : World) : RWs w w (.slice none 0 0) [] := ⟨World.ownsRow_nil _ _ _ _, Below.refl _ _⟩
theorem RWs.below {w wr w' : World} {v : Value} {out : List (List UInt8)} (h : RWs w wr v out) (hb : Below wr.heap.size wr w') : RWs w w' v out := ⟨own_stays h.1 hb, below_then h.2 hb⟩
theorem RWs.size {w wr : World} {v : Value} {out : List (List UInt8)} (h : RWs w wr v out) : w.heap.size ≤ wr.heap.size := h.2.size
theorem RWs.slice {w wr : World} {v : Value} {out : List (List UInt8)} (h : RWs w wr v out) : ∃ A cap, v = .slice A out.length cap := by
  rcases h.1.2 with ⟨rfl, h0⟩ | ⟨g, cap, cur, rfl, _⟩
  · exact ⟨none, 0, by rw [h0]⟩
  · exact ⟨_, cap, rfl⟩
theorem RWs.push {w wr w' : World} {v v' : Value} {out : List (List UInt8)} {t : List UInt8} {o : Obj} (h : RWs w wr v out) (ho : w'.ownsRow w.heap.size 9 1 v' (out.length + 1) (out.map strV ++ [strV t])) (hg : (wr.alloc o).grownBy w' v.ownBlock) : RWs w w' v' (out ++ [t]) :=
  ⟨by rw [List.length_append, List.map_append]; exact ho, (h.2.alloc h.2.size o).grown hg (by have := h.2.size; simp; omega) (fun k hk => (h.1.lt k hk).1)⟩
theorem RWs.ok {R : Except Nat (List (List UInt8))} {w w' : World} {v : Value} {out : List (List UInt8)} (hR : R = .ok out) (h : RWs w w' v out) : WPost R w (.returned (.tuple #[v, .int .i64 0])) w' := by
  subst hR
  exact ⟨v, rfl, h.1, h.2⟩
theorem ext_bytes (s : ByteArray) (i j : Nat) : (s.extract i j).data.toList = (s.data.toList.drop i).take (j - i) := by
  rw [ByteArray.data_extract, Array.toList_extract, List.extract_eq_take_drop]
set_option maxHeartbeats 12800000 in
set_option maxRecDepth 100000 in
theorem rwords_walk (s : ByteArray) (w : World) (h : s.size ≤ 16384) (hp : s.data.toList.all isPr = true) : Calls Tryz.prog 44 #[.string s] w (WPost (wordsX (wordsA (s.data.toList.length + 1) s.data.toList [])) w) := by
  have q0 : (s.size : Int) ≤ 16384 := by omega
  have HP := Lib.hid (sprintable_any s w (by omega))
  rw [hp] at HP
  clear hp
  generalize hR : wordsA (s.data.toList.length + 1) s.data.toList [] = R
  have HR := Lib.hid hR; clear hR
  rw [len_byte s] at HR
  obtain ⟨i0, hi, hz0, hz1, hz2⟩ := info_parts strInfo
  have HI := Lib.hid (And.intro hi (And.intro hz0 (And.intro hz1 hz2)))
  have H0 := Lib.hid (RWs.start w)
  clear hi hz0 hz1 hz2
  go_enter Tryz.func44, Tryz.ntmps44
  go_wp2_with fail
  ((with_reducible refine HP.out.mono ?_); rintro e w1 ⟨rfl, rfl⟩)
  clear HP
  go_wp2_with fail
  go_loopg [4, 5] (s.size) (fun g vx iv wr => ∃ i out v, i ≤ s.size ∧ s.size ≤ i + g ∧ out.length ≤ i ∧ wordsA (g + 1) (s.data.toList.drop i) out = R ∧ v = vx ∧ iv = .int .i64 (i : Nat) ∧ RWs w wr v out)
  case atStart => exact ⟨0, [], _, by omega, by omega, by simp, HR.out, rfl, rfl, H0.out⟩
  case round =>
    obtain ⟨i, out, v, hi1, hi2, hol, hI, rfl, rfl, hS⟩ := hrel
    have HI2 := Lib.hid hI
    have HS := Lib.hid hS
    have HG := Lib.hid hi2
    obtain ⟨va, vc, rfl⟩ := hS.slice
    clear hI hS H0 HR hi2
    by_cases hlt : i < s.size
    · have HC := Lib.hid (drop_byte s i hlt)
      obtain ⟨f, rfl⟩ : ∃ f, gk = f + 1 := ⟨gk - 1, by have := HG.out; omega⟩
      rw [HC.out] at HI2
      have hlt2 : (i : Int) < (s.size : Int) := by omega
      by_cases h32 : (s[i].toNat : Int) = 32
      · have q1 : ((s[i].toNat : Int) == 32) = true := by rw [h32]; rfl
        have HV := Lib.hid (show wordsA (f + 1) (s.data.toList.drop (i + 1)) out = R by rw [← HI2.out, wordsA_blank _ _ _ _ h32])
        clear h32
        go_wp2_with fail
        go_roundg (f)
        case measure => omega
        case rel => exact ⟨i + 1, out, _, by omega, by have := HG.out; omega, by omega, HV.out, rfl, by go_num, HS.out⟩
      · have q1 : ((s[i].toNat : Int) == 32) = false := by simpa using h32
        have H32 := Lib.hid h32; clear h32
        by_cases h34 : (s[i].toNat : Int) = 34
        · have q2 : ((s[i].toNat : Int) == 34) = true := by rw [h34]; rfl
          have H34 := Lib.hid h34; clear h34
          have hext : (s.extract i s.size).data.toList = 34 :: s.data.toList.drop (i + 1) := by
            rw [ext_list, HC.out]
            congr 1
            exact UInt8.toNat_inj.1 (by show s[i].toNat = 34; have := H34.out; omega)
          have hexs : (s.extract i s.size).size ≤ 1099511627776 := by rw [← len_byte, ext_list, List.length_drop, len_byte]; omega
          have HL := Lib.hid (fun w => rread_any (s.extract i s.size) (s.data.toList.drop (i + 1)) w hext hexs)
          clear hext hexs
          cases hl : litF (s.data.toList.drop (i + 1)) with
          | error k =>
            have hk : ((k : Int) != 0) = true := by have := litF_code _ _ (Nat.le_refl _) _ hl; simp; omega
            have HV := Lib.hid (show wordsX R = .error k by rw [← HI2.out, wordsA_lit _ _ _ _ H34.out k hl]; rfl)
            rw [hl] at HL
            clear hl
            go_wp2_with fail
            ((with_reducible refine (HL.out _).mono ?_); rintro e w2 ⟨he, hb2⟩)
            subst he
            go_wp2_with fail
            go_ret2
            exact WPost.err HV.out rfl (below_then HS.out.2 hb2)
          | ok x =>
            obtain ⟨t, n⟩ := x
            have hln := litF_len _ _ (Nat.le_refl _) _ _ hl
            rw [List.length_drop, len_byte] at hln
            have HLF := Lib.hid hl
            rw [hl] at HL
            clear hl
            go_wp2_with fail
            ((with_reducible refine (HL.out _).mono ?_); rintro e w2 ⟨he, hb2⟩)
            subst he
            replace HS := Lib.hid (HS.out.below hb2)
            clear hb2
            obtain ⟨tb, htb⟩ : ∃ y : ByteArray, y = ⟨t.toArray⟩ := ⟨_, rfl⟩
            have HTB := Lib.hid (show strV t = .string tb by rw [htb]; rfl)
            rw [← htb]
            obtain ⟨j, hj⟩ : ∃ j, j = i + (n + 1) := ⟨_, rfl⟩
            have HJ := Lib.hid hj
            have hjs : j ≤ s.size ∧ i + 2 ≤ j ∧ out.length + 1 ≤ j := by omega
            have k1 : IntKind.i64.wrap ((i : Int) + ((n : Int) + 1)) = (j : Int) := by rw [hj]; exact IntWalk.i64_in _ (by omega)
            have k2 : (i : Int) + ((n : Int) + 1) = (j : Int) := by rw [hj]; simp
            clear hj htb
            have HDJ := Lib.hid (show (s.data.toList.drop (i + 1)).drop n = s.data.toList.drop j by rw [List.drop_drop, show i + 1 + n = j by have := HJ.out; omega])
            by_cases hend : j < s.size
            · have HC2 := Lib.hid (drop_byte s j hend)
              have hlt3 : (j : Int) < (s.size : Int) := by omega
              have HD := Lib.hid (show (s.data.toList.drop (i + 1)).drop n = s[j] :: s.data.toList.drop (j + 1) by rw [HDJ.out]; exact HC2.out)
              by_cases h3 : (s[j].toNat : Int) = 32
              · have q3 : ((s[j].toNat : Int) != 32) = false := by rw [h3]; rfl
                have HV := Lib.hid (show wordsA (f + 1) (s.data.toList.drop j) (out ++ [t]) = R by rw [← HI2.out, wordsA_on _ _ _ _ H34.out t n HLF.out _ _ HD.out h3, HDJ.out])
                clear h3
                go_wp2_with (at_builtin; refine wpList_append_own _ rfl _ _ 61 rfl w.heap.size 9 i0 (.string ⟨#[]⟩) 1 16 Tryz.underlying61 HI.out.1 HI.out.2.1 HI.out.2.2.1 HI.out.2.2.2 rfl (by decide) (.slice va out.length vc) _ _ rfl (HS.out.1.alloc _) ⟨w2.heap.size, 0, none⟩ 1 1 [.string tb] rfl rfl ?c1 ?c2 ?c3 ?c4 ?c5 ?_)
                case c1 => intro j u hj; match j, hj with | 0, hj => simp at hj; subst hj; simp [Addr.add] | j + 1, hj => simp at hj
                case c2 => intro u hu; simp at hu; subst hu; rfl
                case c3 => unfold maxLen; omega
                case c4 => omega
                case c5 => have := HS.out.size; simp; omega
                intro v' w7 hown7 hgrow7 _
                replace HS := Lib.hid (HS.out.push (t := t) (by rw [HTB.out]; exact hown7) hgrow7)
                clear hown7 hgrow7
                go_wp2_with fail
                go_roundg (f)
                case measure => omega
                case rel => exact ⟨j, out ++ [t], v', by omega, by have := HG.out; omega, by simp; omega, HV.out, rfl, rfl, HS.out⟩
              · have q3 : ((s[j].toNat : Int) != 32) = true := by simpa using h3
                have HV := Lib.hid (show wordsX R = .error 3 by rw [← HI2.out, wordsA_bad _ _ _ _ H34.out t n HLF.out _ _ HD.out h3]; rfl)
                clear h3
                go_wp2_with fail
                go_ret2
                exact WPost.err HV.out rfl HS.out.2
            · have hlt3 : (j : Int) ≥ (s.size : Int) := by omega
              have hd : s.data.toList.drop j = [] := List.drop_eq_nil_of_le (by rw [len_byte]; omega)
              have HV := Lib.hid (show wordsA (f + 1) (s.data.toList.drop j) (out ++ [t]) = R by rw [← HI2.out, wordsA_end _ _ _ _ H34.out t n HLF.out (by rw [HDJ.out]; exact hd), HDJ.out])
              clear hd
              go_wp2_with (at_builtin; refine wpList_append_own _ rfl _ _ 61 rfl w.heap.size 9 i0 (.string ⟨#[]⟩) 1 16 Tryz.underlying61 HI.out.1 HI.out.2.1 HI.out.2.2.1 HI.out.2.2.2 rfl (by decide) (.slice va out.length vc) _ _ rfl (HS.out.1.alloc _) ⟨w2.heap.size, 0, none⟩ 1 1 [.string tb] rfl rfl ?c1 ?c2 ?c3 ?c4 ?c5 ?_)
              case c1 => intro j u hj; match j, hj with | 0, hj => simp at hj; subst hj; simp [Addr.add] | j + 1, hj => simp at hj
              case c2 => intro u hu; simp at hu; subst hu; rfl
              case c3 => unfold maxLen; omega
              case c4 => omega
              case c5 => have := HS.out.size; simp; omega
              intro v' w7 hown7 hgrow7 _
              replace HS := Lib.hid (HS.out.push (t := t) (by rw [HTB.out]; exact hown7) hgrow7)
              clear hown7 hgrow7
              go_wp2_with fail
              go_roundg (f)
              case measure => omega
              case rel => exact ⟨j, out ++ [t], v', by omega, by have := HG.out; omega, by simp; omega, HV.out, rfl, rfl, HS.out⟩
        · have q2 : ((s[i].toNat : Int) == 34) = false := by simpa using h34
          have H34 := Lib.hid h34; clear h34
          have HB := Lib.hid (wordsA_bare (f + 1) s[i] (s.data.toList.drop (i + 1)) out H32.out H34.out)
          rw [HI2.out, ← HC.out] at HB
          have HNE := H32
          clear H34 H32
          go_wp2_with fail
          clear q1 q2
          go_loopg [5] (s.size) (fun g jv wx => ∃ j, i ≤ j ∧ j ≤ s.size ∧ s.size ≤ j + g ∧ (∀ x ∈ (s.data.toList.drop i).take (j - i), isBw x = true ∧ x.toNat ≠ 34) ∧ jv = .int .i64 (j : Nat) ∧ wx = wr)
          case atStart => exact ⟨i, by omega, by omega, by omega, by simp, rfl, rfl⟩
          case round =>
            obtain ⟨j, hj1, hj2, hj3, hb, rfl, rfl⟩ := hrel
            have HBy := Lib.hid hb
            clear hb
            have HDD := Lib.hid (show (s.data.toList.drop i).drop (j - i) = s.data.toList.drop j by rw [List.drop_drop, show i + (j - i) = j by omega])
            have HTX := Lib.hid (show (s.extract i j).data.toList = (s.data.toList.drop i).take (j - i) from Lib.extract_data s i j)
            have hij : (i : Int) ≤ (j : Int) := by omega
            have hjs : (j : Int) ≤ (s.size : Int) := by omega
            have HVX := Lib.hid (fun (he : (s.data.toList.drop i).drop (j - i) = [] ∨ ∃ c r, (s.data.toList.drop i).drop (j - i) = c :: r ∧ (c.toNat : Int) = 32) => (show wordsA (f + 1) (s.data.toList.drop j) (out ++ [(s.data.toList.drop i).take (j - i)]) = R by
              obtain ⟨h1, h2⟩ := bare_end (s.data.toList.drop i) (j - i) HBy.out he
              rw [HB.out, h1, h2, List.length_take, List.length_drop, len_byte, Nat.min_eq_left (by omega), HDD.out]; rfl))
            have HTB := Lib.hid (show strV ((s.data.toList.drop i).take (j - i)) = .string (s.extract i j) by unfold strV; congr 1; exact bytes_ext HTX.out.symm)
            by_cases hl4 : j < s.size
            · have hl5 : (j : Int) < (s.size : Int) := by omega
              have HC2 := Lib.hid (drop_byte s j hl4)
              by_cases h3 : (s[j].toNat : Int) = 32
              · have q3 : ((s[j].toNat : Int) != 32) = false := by rw [h3]; rfl
                have HV := Lib.hid (HVX.out (.inr ⟨_, _, by rw [HDD.out]; exact HC2.out, h3⟩))
                have hne : i < j := by
                  rcases Nat.lt_or_ge i j with h6 | h6
                  · exact h6
                  · obtain rfl : i = j := by omega
                    exact absurd h3 HNE.out
                clear h3
                go_wp2_with (at_builtin; refine wpList_append_own _ rfl _ _ 61 rfl w.heap.size 9 i0 (.string ⟨#[]⟩) 1 16 Tryz.underlying61 HI.out.1 HI.out.2.1 HI.out.2.2.1 HI.out.2.2.2 rfl (by decide) (.slice va out.length vc) _ _ rfl (HS.out.1.alloc _) ⟨wr.heap.size, 0, none⟩ 1 1 [.string (s.extract i j)] rfl rfl ?c1 ?c2 ?c3 ?c4 ?c5 ?_)
                case c1 => intro j u hj; match j, hj with | 0, hj => simp at hj; subst hj; simp [Addr.add] | j + 1, hj => simp at hj
                case c2 => intro u hu; simp at hu; subst hu; rfl
                case c3 => unfold maxLen; omega
                case c4 => omega
                case c5 => have := HS.out.size; simp; omega
                intro v' w7 hown7 hgrow7 _
                replace HS := Lib.hid (HS.out.push (t := (s.data.toList.drop i).take (j - i)) (by rw [HTB.out]; exact hown7) hgrow7)
                clear hown7 hgrow7
                go_wp2_with fail
                go_roundg (f)
                case measure => omega
                case rel => exact ⟨j, out ++ [(s.data.toList.drop i).take (j - i)], v', by omega, by have := HG.out; omega, by simp; omega, HV.out, rfl, rfl, HS.out⟩
              · have q3 : ((s[j].toNat : Int) != 32) = true := by simpa using h3
                by_cases h4 : (s[j].toNat : Int) = 34
                · have q4 : ((s[j].toNat : Int) == 34) = true := by rw [h4]; rfl
                  have HV := Lib.hid (show wordsX R = .error 3 by rw [HB.out, bare_bad _ (j - i) _ _ HBy.out (by rw [HDD.out]; exact HC2.out) h4]; rfl)
                  clear h4 h3
                  go_wp2_with fail
                  go_ret2
                  exact WPost.err HV.out rfl HS.out.2
                · have q4 : ((s[j].toNat : Int) == 34) = false := by simpa using h4
                  have HN := Lib.hid (show ∀ x ∈ (s.data.toList.drop i).take (j + 1 - i), isBw x = true ∧ x.toNat ≠ 34 by
                    have := bytes_at2 s i j hj1 hl4 HBy.out h3 h4
                    exact this)
                  clear h4 h3
                  go_wp2_with fail
                  go_roundg (gk - 1)
                  case measure => omega
                  case rel => exact ⟨j + 1, by omega, by omega, by omega, HN.out, by go_num, rfl⟩
            · have HV := Lib.hid (HVX.out (.inl (by rw [HDD.out]; exact List.drop_eq_nil_of_le (by rw [len_byte]; omega))))
              have hne : i < j := by omega
              have hlt3 : (j : Int) ≥ (s.size : Int) := by omega
              go_wp2_with (at_builtin; refine wpList_append_own _ rfl _ _ 61 rfl w.heap.size 9 i0 (.string ⟨#[]⟩) 1 16 Tryz.underlying61 HI.out.1 HI.out.2.1 HI.out.2.2.1 HI.out.2.2.2 rfl (by decide) (.slice va out.length vc) _ _ rfl (HS.out.1.alloc _) ⟨wr.heap.size, 0, none⟩ 1 1 [.string (s.extract i j)] rfl rfl ?c1 ?c2 ?c3 ?c4 ?c5 ?_)
              case c1 => intro j u hj; match j, hj with | 0, hj => simp at hj; subst hj; simp [Addr.add] | j + 1, hj => simp at hj
              case c2 => intro u hu; simp at hu; subst hu; rfl
              case c3 => unfold maxLen; omega
              case c4 => omega
              case c5 => have := HS.out.size; simp; omega
              intro v' w7 hown7 hgrow7 _
              replace HS := Lib.hid (HS.out.push (t := (s.data.toList.drop i).take (j - i)) (by rw [HTB.out]; exact hown7) hgrow7)
              clear hown7 hgrow7
              go_wp2_with fail
              go_roundg (f)
              case measure => omega
              case rel => exact ⟨j, out ++ [(s.data.toList.drop i).take (j - i)], v', by omega, by have := HG.out; omega, by simp; omega, HV.out, rfl, rfl, HS.out⟩
    · obtain rfl : i = s.size := by omega
      have hd : s.data.toList.drop s.size = [] := List.drop_eq_nil_of_le (by rw [len_byte]; omega)
      have HV := Lib.hid (show R = .ok out by rw [← HI2.out, hd]; rfl)
      clear hd
      by_cases h1000 : out.length ≤ 1000
      · have q5 : ((out.length : Nat) : Int) ≤ 1000 := by omega
        have HV2 := Lib.hid (show wordsX R = .ok out by rw [HV.out]; unfold wordsX; simp only; rw [if_neg (by omega)])
        go_wp2_with fail
        go_ret2
        exact RWs.ok HV2.out HS.out
      · have q5 : (1000 : Int) < ((out.length : Nat) : Int) := by omega
        have HV2 := Lib.hid (show wordsX R = .error 5 by rw [HV.out]; unfold wordsX; simp only; rw [if_pos (by omega)])
        go_wp2_with fail
        go_ret2
        exact WPost.err HV2.out rfl HS.out.2
end
section
open Go.RowKit

/-- a text read whole as a literal -/
def unqS (l : List UInt8) : Except Nat (List UInt8) := match l with | [] => .error 3 | c :: m => if c.toNat = 34 then unq m else .error 3
theorem unqS_quote (m : List UInt8) : unqS (34 :: m) = unq m := rfl
theorem unqS_no (c : UInt8) (m : List UInt8) (h : (c.toNat : Int) ≠ 34) : unqS (c :: m) = .error 3 := by unfold unqS; simp only; rw [if_neg (by omega)]
theorem unqRet_err {R : Except Nat (List UInt8)} {k : Nat} (h : R = .error k) : unqRet R = .returned (.tuple #[.string ⟨#[]⟩, .int .i64 (k : Int)]) := by subst h; rfl
theorem unqRet_ok {R : Except Nat (List UInt8)} {t : List UInt8} (h : R = .ok t) : unqRet R = .returned (.tuple #[.string ⟨t.toArray⟩, .int .i64 0]) := by subst h; rfl
set_option maxHeartbeats 3200000 in
theorem runquote_any (s : ByteArray) (w : World) (hs : s.size ≤ 16384) :
    Calls Tryz.prog 102 #[.string s] w fun e w' => e = unqRet (unqS s.data.toList) ∧ Below w.heap.size w w' := by
  by_cases hz : s.size = 0
  · rcases empty_facts s with ⟨e0, e1, e2, e3⟩ | ⟨e0, e2, e3⟩
    · have HV := Lib.hid (unqRet_err (show unqS s.data.toList = .error 3 by rw [e0]; rfl))
      clear e0
      go_enter Tryz.func102, Tryz.ntmps102
      go_wp2_with fail
      go_ret2
      exact ⟨HV.out.symm, Below.refl _ _⟩
    · exact absurd (lnil s hz) e0
  · have e2 := nonempty s (by omega)
    have h0 : 0 < s.size := by omega
    have hd := drop_byte s 0 h0
    rw [List.drop_zero] at hd
    by_cases h34 : (s[0].toNat : Int) = 34
    · have q1 : ((s[0].toNat : Int) != 34) = false := by rw [h34]; rfl
      have h34b : s[0] = 34 := UInt8.toNat_inj.1 (by show s[0].toNat = 34; omega)
      obtain ⟨m, hm⟩ : ∃ m, m = s.data.toList.drop (0 + 1) := ⟨_, rfl⟩
      rw [h34b, ← hm] at hd
      have hml : m.length + 1 = s.size := by rw [← len_byte s, hd]; simp
      have HAll := Lib.hid (show s.data.toList.all isPr = m.all isPr by rw [hd, List.all_cons, show isPr 34 = true by decide, Bool.true_and])
      have HU := Lib.hid (show unqS s.data.toList = unq m by rw [hd]; rfl)
      have HRd := Lib.hid (fun w => rread_any s m w hd (by omega))
      clear hd h34 h34b hm
      have HP := Lib.hid (fun w => sprintable_any s w (by omega))
      rw [HAll.out] at HP
      cases hp : m.all isPr with
      | false =>
        rw [hp] at HP
        have HV := Lib.hid (unqRet_err (show unqS s.data.toList = .error 3 by rw [HU.out]; unfold unq; rw [hp]; rfl))
        clear hp
        go_enter Tryz.func102, Tryz.ntmps102
        go_wp2_with fail
        ((with_reducible refine (HP.out _).mono ?_); rintro e w1 ⟨rfl, rfl⟩)
        go_wp2_with fail
        go_ret2
        exact ⟨HV.out.symm, Below.refl _ _⟩
      | true =>
        rw [hp] at HP
        cases hl : litF m with
        | error k =>
          have HV := Lib.hid (unqRet_err (show unqS s.data.toList = .error k by rw [HU.out]; unfold unq; rw [hp, hl]; rfl))
          have hk : ((k : Int) != 0) = true := by have := litF_code _ _ (Nat.le_refl _) _ hl; simp; omega
          rw [hl] at HRd
          clear hl hp
          go_enter Tryz.func102, Tryz.ntmps102
          go_wp2_with fail
          ((with_reducible refine (HP.out _).mono ?_); rintro e w1 ⟨rfl, rfl⟩)
          go_wp2_with fail
          ((with_reducible refine (HRd.out _).mono ?_); rintro e w2 ⟨he, hb2⟩)
          subst he
          go_wp2_with fail
          go_ret2
          exact ⟨HV.out.symm, hb2⟩
        | ok x =>
          obtain ⟨t, n⟩ := x
          have hln := litF_len _ _ (Nat.le_refl _) _ _ hl
          by_cases hn : n = m.length
          · have HV := Lib.hid (unqRet_ok (show unqS s.data.toList = .ok t by rw [HU.out]; unfold unq; rw [hp, hl]; simp only [if_true]; rw [if_pos hn]))
            have q2 : ((n : Int) + 1 != (s.size : Int)) = false := by rw [bne_eq_false_iff_eq]; omega
            rw [hl] at HRd
            obtain ⟨y, hy⟩ : ∃ y : ByteArray, y = ⟨t.toArray⟩ := ⟨_, rfl⟩
            have hsz : y.size ≤ 16384 := by rw [hy, ← len_byte]; show t.length ≤ _; omega
            have hsq : (y.size : Int) ≤ 16384 := by omega
            rw [← hy] at HV
            have HY := Lib.hid hy
            clear hl hp hn hy
            go_enter Tryz.func102, Tryz.ntmps102
            go_wp2_with fail
            ((with_reducible refine (HP.out _).mono ?_); rintro e w1 ⟨rfl, rfl⟩)
            go_wp2_with fail
            ((with_reducible refine (HRd.out _).mono ?_); rintro e w2 ⟨he, hb2⟩)
            subst he
            rw [← HY.out]
            go_wp2_with fail
            go_ret2
            exact ⟨HV.out.symm, hb2⟩
          · have HV := Lib.hid (unqRet_err (show unqS s.data.toList = .error 3 by rw [HU.out]; unfold unq; rw [hp, hl]; simp only [if_true]; rw [if_neg hn]))
            have q2 : ((n : Int) + 1 != (s.size : Int)) = true := by rw [bne_iff_ne]; omega
            rw [hl] at HRd
            clear hl hp hn
            go_enter Tryz.func102, Tryz.ntmps102
            go_wp2_with fail
            ((with_reducible refine (HP.out _).mono ?_); rintro e w1 ⟨rfl, rfl⟩)
            go_wp2_with fail
            ((with_reducible refine (HRd.out _).mono ?_); rintro e w2 ⟨he, hb2⟩)
            subst he
            go_wp2_with fail
            go_ret2
            exact ⟨HV.out.symm, hb2⟩
    · have q1 : ((s[0].toNat : Int) != 34) = true := by simpa using h34
      have HV := Lib.hid (unqRet_err (show unqS s.data.toList = .error 3 by rw [hd]; exact unqS_no _ _ h34))
      clear hd h34
      go_enter Tryz.func102, Tryz.ntmps102
      go_wp2_with fail
      go_ret2
      exact ⟨HV.out.symm, Below.refl _ _⟩
set_option maxHeartbeats 1600000 in
theorem rvtx_any (v : Vl) (w : World) (hok : v.ok = true) :
    Calls Tryz.prog 37 #[.agg #[.int .i64 v.k, .int .i64 v.n, .string v.s]] w fun e w' => e = .returned (.string ⟨v.tx.toArray⟩) ∧ Below w.heap.size w w' := by
  obtain ⟨k, n, s⟩ := v
  rcases val_cases _ hok with ⟨h1, h2, h3⟩ | ⟨h1, h2, h2b, h3⟩ | ⟨h1, h2, h3, h4⟩
  · simp only at h1 h2 h3
    subst h1
    clear hok
    rcases h2 with h2 | h2
    · subst h2
      have HV := Lib.hid (show (⟨1, 0, s⟩ : Vl).tx = tFalse from rfl)
      go_enter Tryz.func37, Tryz.ntmps37
      go_wp2_with fail
      go_ret
      exact ⟨ret_str (by rw [HV.out]; rfl), below_alloc w _⟩
    · subst h2
      have HV := Lib.hid (show (⟨1, 1, s⟩ : Vl).tx = tTrue from rfl)
      go_enter Tryz.func37, Tryz.ntmps37
      go_wp2_with fail
      go_ret
      exact ⟨ret_str (by rw [HV.out]; rfl), below_alloc w _⟩
  · simp only at h1 h2 h2b h3
    subst h1
    clear hok
    have HV := Lib.hid (show (⟨2, n, s⟩ : Vl).tx = Lib.itoa n from rfl)
    go_enter Tryz.func37, Tryz.ntmps37
    go_wp2_with fail
    ((with_reducible refine (decimal_any 16 n _ (by omega) (by omega) (by omega)).mono ?_); rintro e w1 ⟨rfl, rfl⟩)
    go_wp2_with fail
    go_ret
    exact ⟨ret_str (by rw [HV.out]), below_alloc w _⟩
  · simp only at h1 h2 h3 h4
    subst h1 h2
    clear hok
    have HV := Lib.hid (show (⟨3, 0, s⟩ : Vl).tx = quoteL s.data.toList from rfl)
    have HQ := Lib.hid (fun w => rquote_ok s w (by omega) h4)
    clear h4
    go_enter Tryz.func37, Tryz.ntmps37
    go_wp2_with fail
    ((with_reducible refine (HQ.out _).mono ?_); rintro e w1 ⟨rfl, hb1⟩)
    go_wp2_with fail
    go_ret
    exact ⟨ret_str (by rw [HV.out]), below_then (below_alloc w _) hb1⟩
end
section
open Go.RowKit

theorem dec_short (u : Nat) : ∀ k : Nat, 1 ≤ k → u < 10 ^ k → (Lib.decDigits u).length ≤ k := by
  refine dec_induct (P := fun u l => ∀ k : Nat, 1 ≤ k → u < 10 ^ k → l.length ≤ k) ?_ ?_ u
  · intro u _ k h1 _; exact h1
  · intro u hu ih k h1 h2
    obtain ⟨k, rfl⟩ : ∃ m, k = m + 1 := ⟨k - 1, by omega⟩
    rw [Nat.pow_succ] at h2
    have hk : 1 ≤ k := by
      rcases Nat.eq_zero_or_pos k with h | h
      · subst h; simp at h2; omega
      · exact h
    have := ih k hk (by omega)
    rw [List.length_append, List.length_singleton]; omega
/-- where a number's digits begin -/
def sgnAt (l : List UInt8) (i : Nat) : Prop := (i = 0 ∧ ∀ c r, l = c :: r → c.toNat ≠ 45) ∨ (i = 1 ∧ ∃ c r, l = c :: r ∧ c.toNat = 45)
theorem itoa_shape (n : Int) (i : Nat) (hn : numB n = true) (hi : sgnAt (Lib.itoa n) i) : (∀ c ∈ (Lib.itoa n).drop i, isDig c = true) ∧ ((Lib.itoa n).drop i).length ≤ 16 := by
  have hb := of_decide_eq_true hn
  by_cases h : n < 0
  · rw [Lib.itoa, if_pos h] at hi ⊢
    rcases hi with ⟨_, h2⟩ | ⟨rfl, _⟩
    · exact absurd rfl (h2 _ _ rfl)
    · exact ⟨dec_dig _, dec_short _ 16 (by omega) (by omega)⟩
  · rw [Lib.itoa, if_neg h] at hi ⊢
    rcases hi with ⟨rfl, _⟩ | ⟨_, c, r, h2, h3⟩
    · exact ⟨dec_dig _, dec_short _ 16 (by omega) (by omega)⟩
    · exfalso
      have := dec_dig n.toNat c (by rw [h2]; exact List.mem_cons_self)
      unfold isDig at this
      simp at this
      omega
/-- the number with a text -/
def decX (l : List UInt8) : Option Int := if numB (numOf l) = true ∧ Lib.itoa (numOf l) = l then some (numOf l) else none
theorem decX_bad (l : List UInt8) (i : Nat) (hi : sgnAt l i) (h : ¬ ((∀ c ∈ l.drop i, isDig c = true) ∧ (l.drop i).length ≤ 16)) : decX l = none := by
  unfold decX
  rw [if_neg]
  rintro ⟨h1, h2⟩
  exact h (by have := itoa_shape (numOf l) i h1 (by rw [h2]; exact hi); rw [h2] at this; exact this)
theorem numOf_at (l : List UInt8) (i : Nat) (hi : sgnAt l i) : numOf l = if i = 1 then -(dval (l.drop i) : Int) else (dval (l.drop i) : Int) := by
  rcases hi with ⟨rfl, h⟩ | ⟨rfl, c, r, rfl, h⟩
  · cases l with
    | nil => rfl
    | cons c r => unfold numOf; simp only; rw [if_neg (h c r rfl)]; rfl
  · unfold numOf; simp only; rw [if_pos h]; rfl
def DecPost (R : Option Int) (w : World) (e : Ending) (w' : World) : Prop := match R with
  | some n => e = .returned (.tuple #[.int .i64 n, .bool true]) ∧ w = w'
  | none => ∃ m : Int, e = .returned (.tuple #[.int .i64 m, .bool false]) ∧ w = w'
theorem DecPost.no {l : List UInt8} {w : World} (m : Int) (h : decX l = none) : DecPost (decX l) w (.returned (.tuple #[.int .i64 m, .bool false])) w := by rw [h]; exact ⟨m, rfl, rfl⟩
theorem DecPost.end {l : List UInt8} {w : World} (n : Int) (b : Bool) (hn : n = numOf l) (hb : b = true ↔ (numB (numOf l) = true ∧ Lib.itoa (numOf l) = l)) : DecPost (decX l) w (.returned (.tuple #[.int .i64 n, .bool b])) w := by
  subst hn
  unfold decX
  cases b with
  | true => rw [if_pos (hb.1 rfl)]; exact ⟨rfl, rfl⟩
  | false => rw [if_neg (fun h => by cases hb.2 h)]; exact ⟨_, rfl, rfl⟩
theorem pow_18 (k : Nat) (h : k ≤ 17) : 10 ^ k ≤ 100000000000000000 := Nat.le_trans (Nat.pow_le_pow_right (by omega) h) (by decide)
theorem digs_on (l : List UInt8) (i j : Nat) (hj : i + j < l.length) (h : ∀ c ∈ (l.drop i).take j, isDig c = true) (hc : isDig l[i + j] = true) : (∀ c ∈ (l.drop i).take (j + 1), isDig c = true) ∧ dval ((l.drop i).take (j + 1)) = 10 * dval ((l.drop i).take j) + (l[i + j].toNat - 48) := by
  have h2 : (l.drop i).take (j + 1) = (l.drop i).take j ++ [l[i + j]] := by
    rw [List.take_succ_eq_append_getElem (by rw [List.length_drop]; omega), List.getElem_drop]
  rw [h2]
  refine ⟨fun c h3 => ?_, dval_snoc _ _⟩
  rcases List.mem_append.1 h3 with h4 | h4
  · exact h c h4
  · have : c = l[i + j] := by simpa using h4
    rw [this]; exact hc
theorem byte_mem (l : List UInt8) (i j : Nat) (hj : i + j < l.length) : l[i + j] ∈ l.drop i := by
  have : (l.drop i)[j]'(by rw [List.length_drop]; omega) = l[i + j] := List.getElem_drop ..
  rw [← this]; exact List.getElem_mem _
theorem dig_no (c : UInt8) (h : (c.toNat : Int) < 48 ∨ 57 < (c.toNat : Int)) : isDig c = false := by unfold isDig; simp; omega
theorem dig_yes (c : UInt8) (h1 : 48 ≤ (c.toNat : Int)) (h2 : (c.toNat : Int) ≤ 57) : isDig c = true := by unfold isDig; simp; omega
/-- while the digits are read -/
def DSt (l : List UInt8) (i j : Nat) (n : Nat) : Prop := (∀ c ∈ (l.drop i).take j, isDig c = true) ∧ dval ((l.drop i).take j) = n ∧ n < 10 ^ j
theorem DSt.start (l : List UInt8) (i : Nat) : DSt l i 0 0 := ⟨fun c h => by simp at h, rfl, by decide⟩
theorem DSt.on {l : List UInt8} {i j n : Nat} (h : DSt l i j n) (hj : i + j < l.length) (h1 : 48 ≤ (l[i + j].toNat : Int)) (h2 : (l[i + j].toNat : Int) ≤ 57) : DSt l i (j + 1) (10 * n + (l[i + j].toNat - 48)) := by
  obtain ⟨a, b⟩ := digs_on l i j hj h.1 (dig_yes _ h1 h2)
  refine ⟨a, by rw [b, h.2.1], ?_⟩
  rw [Nat.pow_succ]; have := h.2.2; omega
theorem DSt.fin {l : List UInt8} {i n : Nat} (h : DSt l i (l.length - i) n) : dval (l.drop i) = n := by
  have := h.2.1
  rwa [List.take_of_length_le (by rw [List.length_drop]; omega)] at this
theorem get_list (s : ByteArray) (k : Nat) (h : k < s.size) : s.data.toList[k]'(by rw [len_byte]; exact h) = s[k] := rfl
theorem str_dec (s y : ByteArray) : (y.toList == s.toList) = decide (y.data.toList = s.data.toList) := by
  rw [ByteArray.toList_eq, ByteArray.toList_eq]
  by_cases h : y.data.toList = s.data.toList
  · rw [h]; simp
  · rw [beq_eq_false_iff_ne.2 h, decide_eq_false h]
set_option maxHeartbeats 6400000 in
set_option maxRecDepth 100000 in
theorem rdecimal_any (s : ByteArray) (w : World) (hs : s.size ≤ 16384) : Calls Tryz.prog 101 #[.string s] w (DecPost (decX s.data.toList) w) := by
  by_cases hm : ∃ h : 0 < s.size, (s[0].toNat : Int) = 45
  · obtain ⟨h0, h45⟩ := hm
    have q1 : ((s[0].toNat : Int) == 45) = true := by rw [h45]; rfl
    have h0i : 0 < (s.size : Int) := by omega
    have HSg := Lib.hid (show sgnAt s.data.toList 1 from .inr ⟨rfl, s[0], s.data.toList.drop 1, by have := drop_byte s 0 h0; simpa using this, by omega⟩)
    clear h45
    go_enter Tryz.func101, Tryz.ntmps101
    go_wp2_with fail
    go_loopg [5, 6] (s.size) (fun g nv iv wr => ∃ (j n : Nat), 1 + j ≤ s.size ∧ s.size ≤ 1 + j + g ∧ j ≤ 18 ∧ nv = .int .i64 n ∧ iv = .int .i64 (((1 + j : Nat) : Nat) : Int) ∧ DSt s.data.toList 1 j n ∧ w = wr)
    case atStart => exact ⟨0, 0, by omega, by omega, by omega, rfl, rfl, DSt.start _ _, rfl⟩
    case round =>
      obtain ⟨j, n, hk0, hk, hj, rfl, rfl, hD, rfl⟩ := hrel
      have HK := Lib.hid hk
      have HD := Lib.hid hD
      have hle : 1 + j ≤ s.size := by omega
      obtain ⟨p, hp⟩ : ∃ p, p = 1 + j := ⟨_, rfl⟩
      rw [← hp] at hle ⊢
      have hjp : j + 1 = p := by omega
      have HP := Lib.hid hp
      clear hk hD hp
      by_cases hlt : p < s.size
      · have hlt' : 1 + j < s.data.toList.length := by rw [len_byte]; omega
        have HE := Lib.hid (show s.data.toList[1 + j]'hlt' = s[p] by have h5 := HP.out; subst h5; rfl)
        have HM := Lib.hid (show s[p] ∈ s.data.toList.drop 1 by rw [← HE.out]; exact byte_mem _ _ _ hlt')
        have HLen := Lib.hid (show (s.data.toList.drop 1).length = s.size - 1 by rw [List.length_drop, len_byte])
        have HOn := Lib.hid (show 48 ≤ (s[p].toNat : Int) → (s[p].toNat : Int) ≤ 57 → DSt s.data.toList 1 (j + 1) (10 * n + (s[p].toNat - 48)) by rw [← HE.out]; exact fun h1 h2 => HD.out.on hlt' h1 h2)
        have hc8 : (s[p].toNat : Int) < 256 := by have := s[p].toNat_lt; omega
        clear hlt' HE
        by_cases h1 : (s[p].toNat : Int) < 48
        · have HV := Lib.hid (decX_bad s.data.toList 1 HSg.out (fun h => by have h6 := h.1 _ HM.out; rw [dig_no _ (.inl h1)] at h6; cases h6))
          go_wp2_with fail
          go_ret2
          exact DecPost.no _ HV.out
        have d1 : decide ((s[p].toNat : Int) < 48) = false := by simpa using h1
        by_cases h2 : 57 < (s[p].toNat : Int)
        · have HV := Lib.hid (decX_bad s.data.toList 1 HSg.out (fun h => by have h6 := h.1 _ HM.out; rw [dig_no _ (.inr h2)] at h6; cases h6))
          go_wp2_with fail
          go_ret2
          exact DecPost.no _ HV.out
        have d2 : decide (57 < (s[p].toNat : Int)) = false := by simpa using h2
        by_cases h3 : 17 < j
        · have h3i : (18 : Int) < (p : Int) := by omega
          have HV := Lib.hid (decX_bad s.data.toList 1 HSg.out (fun h => by have h6 := h.2; rw [HLen.out] at h6; have h7 := HP.out; omega))
          go_wp2_with fail
          go_ret2
          exact DecPost.no _ HV.out
        have g1 : 48 ≤ (s[p].toNat : Int) := by omega
        have g2 : (s[p].toNat : Int) ≤ 57 := by omega
        have g3 : n ≤ 100000000000000000 := Nat.le_trans (Nat.le_of_lt HD.out.2.2) (pow_18 j (by omega))
        have g3i : (n : Int) ≤ 100000000000000000 := by omega
        have g4 : (p : Int) ≤ 18 := by omega
        clear h1 h2 h3
        go_wp2_with fail
        go_roundg (gk - 1)
        case measure => have := HK.out; omega
        case rel => exact ⟨j + 1, 10 * n + (s[p].toNat - 48), by have := HP.out; omega, by have := HK.out; omega, by omega, by congr 1; omega, by congr 1; have := HP.out; omega, HOn.out g1 g2, rfl⟩
      · have hps : p = s.size := by omega
        have hnum : numOf s.data.toList = -(n : Int) := by
          rw [numOf_at _ 1 HSg.out]
          have h6 := HD.out
          rw [show j = s.data.toList.length - 1 by rw [len_byte]; have := HP.out; omega] at h6
          rw [h6.fin]; rfl
        have HNum := Lib.hid hnum
        have g3 : n < 1000000000000000000 := Nat.lt_of_lt_of_le HD.out.2.2 (Nat.le_trans (Nat.pow_le_pow_right (by omega) hj) (by decide))
        obtain ⟨N, hN⟩ : ∃ N : Int, N = -(n : Int) := ⟨_, rfl⟩
        rw [← hN] at hnum
        have HN2 := Lib.hid hnum
        have hNb : -1000000000000000000 ≤ N ∧ N ≤ 1000000000000000000 := by omega
        have HNu := Lib.hid (fun w => rvnumber_any N w)
        have HDe := Lib.hid (fun w => decimal_any 19 N w (by omega) (by omega) (by omega))
        obtain ⟨y, hy⟩ : ∃ y : ByteArray, y = ⟨(Lib.itoa N).toArray⟩ := ⟨_, rfl⟩
        rw [← hy] at HDe
        have HY := Lib.hid (show y.data.toList = Lib.itoa N by rw [hy])
        have HNv := Lib.hid hN
        clear hy hnum HNum hN
        cases hb : numB N with
        | false =>
          rw [hb] at HNu
          have HF := Lib.hid (show (false = true ↔ (numB (numOf s.data.toList) = true ∧ Lib.itoa (numOf s.data.toList) = s.data.toList)) by rw [HN2.out, hb]; simp)
          clear hb
          go_wp2_with fail
          rw [← HNv.out]
          ((with_reducible refine (HNu.out _).mono ?_); rintro e w1 ⟨rfl, rfl⟩)
          go_wp2_with fail
          go_ret2
          exact DecPost.end N false HN2.out.symm HF.out
        | true =>
          rw [hb] at HNu
          have HF := Lib.hid (show ((y.toList == s.toList) = true ↔ (numB (numOf s.data.toList) = true ∧ Lib.itoa (numOf s.data.toList) = s.data.toList)) by rw [HN2.out, hb, str_dec, HY.out]; simp)
          clear hb
          go_wp2_with fail
          rw [← HNv.out]
          ((with_reducible refine (HNu.out _).mono ?_); rintro e w1 ⟨rfl, rfl⟩)
          go_wp2_with fail
          ((with_reducible refine (HDe.out _).mono ?_); rintro e w1 ⟨rfl, rfl⟩)
          go_wp2_with fail
          go_ret2
          exact DecPost.end N _ HN2.out.symm HF.out
  · have HSg := Lib.hid (show sgnAt s.data.toList 0 from .inl ⟨rfl, fun c r hcr h45 => by
      have h0 : 0 < s.size := by rw [← len_byte, hcr]; simp
      refine hm ⟨h0, ?_⟩
      have := drop_byte s 0 h0
      rw [List.drop_zero, hcr] at this
      rw [← (List.cons.inj this).1]; omega⟩)
    by_cases h0 : 0 < s.size
    · have h0i : 0 < (s.size : Int) := by omega
      have q1 : ((s[0].toNat : Int) == 45) = false := by rw [beq_eq_false_iff_ne]; exact fun h => hm ⟨h0, h⟩
      clear hm
      go_enter Tryz.func101, Tryz.ntmps101
      go_wp2_with fail
      go_loopg [5, 6] (s.size) (fun g nv iv wr => ∃ (j n : Nat), 0 + j ≤ s.size ∧ s.size ≤ 0 + j + g ∧ j ≤ 18 ∧ nv = .int .i64 n ∧ iv = .int .i64 (((0 + j : Nat) : Nat) : Int) ∧ DSt s.data.toList 0 j n ∧ w = wr)
      case atStart => exact ⟨0, 0, by omega, by omega, by omega, rfl, rfl, DSt.start _ _, rfl⟩
      case round =>
        obtain ⟨j, n, hk0, hk, hj, rfl, rfl, hD, rfl⟩ := hrel
        have HK := Lib.hid hk
        have HD := Lib.hid hD
        have hle : 0 + j ≤ s.size := by omega
        obtain ⟨p, hp⟩ : ∃ p, p = 0 + j := ⟨_, rfl⟩
        rw [← hp] at hle ⊢
        have hjp : j + 0 = p := by omega
        have HP := Lib.hid hp
        clear hk hD hp
        by_cases hlt : p < s.size
        · have hlt' : 0 + j < s.data.toList.length := by rw [len_byte]; omega
          have HE := Lib.hid (show s.data.toList[0 + j]'hlt' = s[p] by have h5 := HP.out; subst h5; rfl)
          have HM := Lib.hid (show s[p] ∈ s.data.toList.drop 0 by rw [← HE.out]; exact byte_mem _ _ _ hlt')
          have HLen := Lib.hid (show (s.data.toList.drop 0).length = s.size - 0 by rw [List.length_drop, len_byte])
          have HOn := Lib.hid (show 48 ≤ (s[p].toNat : Int) → (s[p].toNat : Int) ≤ 57 → DSt s.data.toList 0 (j + 1) (10 * n + (s[p].toNat - 48)) by rw [← HE.out]; exact fun h1 h2 => HD.out.on hlt' h1 h2)
          have hc8 : (s[p].toNat : Int) < 256 := by have := s[p].toNat_lt; omega
          clear hlt' HE
          by_cases h1 : (s[p].toNat : Int) < 48
          · have HV := Lib.hid (decX_bad s.data.toList 0 HSg.out (fun h => by have h6 := h.1 _ HM.out; rw [dig_no _ (.inl h1)] at h6; cases h6))
            go_wp2_with fail
            go_ret2
            exact DecPost.no _ HV.out
          have d1 : decide ((s[p].toNat : Int) < 48) = false := by simpa using h1
          by_cases h2 : 57 < (s[p].toNat : Int)
          · have HV := Lib.hid (decX_bad s.data.toList 0 HSg.out (fun h => by have h6 := h.1 _ HM.out; rw [dig_no _ (.inr h2)] at h6; cases h6))
            go_wp2_with fail
            go_ret2
            exact DecPost.no _ HV.out
          have d2 : decide (57 < (s[p].toNat : Int)) = false := by simpa using h2
          by_cases h3 : 17 < j
          · have h3i : (17 : Int) < (p : Int) := by omega
            have HV := Lib.hid (decX_bad s.data.toList 0 HSg.out (fun h => by have h6 := h.2; rw [HLen.out] at h6; have h7 := HP.out; omega))
            go_wp2_with fail
            go_ret2
            exact DecPost.no _ HV.out
          have g1 : 48 ≤ (s[p].toNat : Int) := by omega
          have g2 : (s[p].toNat : Int) ≤ 57 := by omega
          have g3 : n ≤ 100000000000000000 := Nat.le_trans (Nat.le_of_lt HD.out.2.2) (pow_18 j (by omega))
          have g3i : (n : Int) ≤ 100000000000000000 := by omega
          have g4 : (p : Int) ≤ 17 := by omega
          clear h1 h2 h3
          go_wp2_with fail
          go_roundg (gk - 1)
          case measure => have := HK.out; omega
          case rel => exact ⟨j + 1, 10 * n + (s[p].toNat - 48), by have := HP.out; omega, by have := HK.out; omega, by omega, by congr 1; omega, by congr 1; have := HP.out; omega, HOn.out g1 g2, rfl⟩
        · have hps : p = s.size := by omega
          have hnum : numOf s.data.toList = (n : Int) := by
            rw [numOf_at _ 0 HSg.out]
            have h6 := HD.out
            rw [show j = s.data.toList.length - 0 by rw [len_byte]; have := HP.out; omega] at h6
            rw [h6.fin]; rfl
          have HNum := Lib.hid hnum
          have g3 : n < 1000000000000000000 := Nat.lt_of_lt_of_le HD.out.2.2 (Nat.le_trans (Nat.pow_le_pow_right (by omega) hj) (by decide))
          obtain ⟨N, hN⟩ : ∃ N : Int, N = (n : Int) := ⟨_, rfl⟩
          rw [← hN] at hnum
          have HN2 := Lib.hid hnum
          have hNb : -1000000000000000000 ≤ N ∧ N ≤ 1000000000000000000 := by omega
          have HNu := Lib.hid (fun w => rvnumber_any N w)
          have HDe := Lib.hid (fun w => decimal_any 19 N w (by omega) (by omega) (by omega))
          obtain ⟨y, hy⟩ : ∃ y : ByteArray, y = ⟨(Lib.itoa N).toArray⟩ := ⟨_, rfl⟩
          rw [← hy] at HDe
          have HY := Lib.hid (show y.data.toList = Lib.itoa N by rw [hy])
          have HNv := Lib.hid hN
          clear hy hnum HNum hN
          cases hb : numB N with
          | false =>
            rw [hb] at HNu
            have HF := Lib.hid (show (false = true ↔ (numB (numOf s.data.toList) = true ∧ Lib.itoa (numOf s.data.toList) = s.data.toList)) by rw [HN2.out, hb]; simp)
            clear hb
            go_wp2_with fail
            rw [← HNv.out]
            ((with_reducible refine (HNu.out _).mono ?_); rintro e w1 ⟨rfl, rfl⟩)
            go_wp2_with fail
            go_ret2
            exact DecPost.end N false HN2.out.symm HF.out
          | true =>
            rw [hb] at HNu
            have HF := Lib.hid (show ((y.toList == s.toList) = true ↔ (numB (numOf s.data.toList) = true ∧ Lib.itoa (numOf s.data.toList) = s.data.toList)) by rw [HN2.out, hb, str_dec, HY.out]; simp)
            clear hb
            go_wp2_with fail
            rw [← HNv.out]
            ((with_reducible refine (HNu.out _).mono ?_); rintro e w1 ⟨rfl, rfl⟩)
            go_wp2_with fail
            ((with_reducible refine (HDe.out _).mono ?_); rintro e w1 ⟨rfl, rfl⟩)
            go_wp2_with fail
            go_ret2
            exact DecPost.end N _ HN2.out.symm HF.out
    · have h0i : (s.size : Int) ≤ 0 := by omega
      have HV := Lib.hid (show decX s.data.toList = none by rw [lnil s (by omega)]; unfold decX; rw [if_neg]; rintro ⟨_, h⟩; obtain ⟨c, r, e, _⟩ := itoa_head (numOf []); rw [e] at h; cases h)
      clear hm
      go_enter Tryz.func101, Tryz.ntmps101
      go_wp2_with fail
      go_loopg [5, 6] (s.size) (fun g nv iv wr => ∃ (j n : Nat), 0 + j ≤ s.size ∧ s.size ≤ 0 + j + g ∧ j ≤ 18 ∧ nv = .int .i64 n ∧ iv = .int .i64 (((0 + j : Nat) : Nat) : Int) ∧ DSt s.data.toList 0 j n ∧ w = wr)
      case atStart => exact ⟨0, 0, by omega, by omega, by omega, rfl, rfl, DSt.start _ _, rfl⟩
      case round =>
        obtain ⟨j, n, hk0, hk, hj, rfl, rfl, hD, rfl⟩ := hrel
        have HK := Lib.hid hk
        have HD := Lib.hid hD
        have hle : 0 + j ≤ s.size := by omega
        obtain ⟨p, hp⟩ : ∃ p, p = 0 + j := ⟨_, rfl⟩
        rw [← hp] at hle ⊢
        have hjp : j + 0 = p := by omega
        have HP := Lib.hid hp
        clear hk hD hp
        by_cases hlt : p < s.size
        · exfalso
          omega
        · have hps : p = s.size := by omega
          have hnum : numOf s.data.toList = (n : Int) := by
            rw [numOf_at _ 0 HSg.out]
            have h6 := HD.out
            rw [show j = s.data.toList.length - 0 by rw [len_byte]; have := HP.out; omega] at h6
            rw [h6.fin]; rfl
          have HNum := Lib.hid hnum
          have g3 : n < 1000000000000000000 := Nat.lt_of_lt_of_le HD.out.2.2 (Nat.le_trans (Nat.pow_le_pow_right (by omega) hj) (by decide))
          obtain ⟨N, hN⟩ : ∃ N : Int, N = (n : Int) := ⟨_, rfl⟩
          rw [← hN] at hnum
          have HN2 := Lib.hid hnum
          have hNb : -1000000000000000000 ≤ N ∧ N ≤ 1000000000000000000 := by omega
          have HNu := Lib.hid (fun w => rvnumber_any N w)
          have HDe := Lib.hid (fun w => decimal_any 19 N w (by omega) (by omega) (by omega))
          obtain ⟨y, hy⟩ : ∃ y : ByteArray, y = ⟨(Lib.itoa N).toArray⟩ := ⟨_, rfl⟩
          rw [← hy] at HDe
          have HY := Lib.hid (show y.data.toList = Lib.itoa N by rw [hy])
          have HNv := Lib.hid hN
          clear hy hnum HNum hN
          cases hb : numB N with
          | false =>
            rw [hb] at HNu
            have HF := Lib.hid (show (false = true ↔ (numB (numOf s.data.toList) = true ∧ Lib.itoa (numOf s.data.toList) = s.data.toList)) by rw [HN2.out, hb]; simp)
            clear hb
            go_wp2_with fail
            rw [← HNv.out]
            ((with_reducible refine (HNu.out _).mono ?_); rintro e w1 ⟨rfl, rfl⟩)
            go_wp2_with fail
            go_ret2
            exact DecPost.end N false HN2.out.symm HF.out
          | true =>
            rw [hb] at HNu
            have HF := Lib.hid (show ((y.toList == s.toList) = true ↔ (numB (numOf s.data.toList) = true ∧ Lib.itoa (numOf s.data.toList) = s.data.toList)) by rw [HN2.out, hb, str_dec, HY.out]; simp)
            clear hb
            go_wp2_with fail
            rw [← HNv.out]
            ((with_reducible refine (HNu.out _).mono ?_); rintro e w1 ⟨rfl, rfl⟩)
            go_wp2_with fail
            ((with_reducible refine (HDe.out _).mono ?_); rintro e w1 ⟨rfl, rfl⟩)
            go_wp2_with fail
            go_ret2
            exact DecPost.end N _ HN2.out.symm HF.out
end
section
open Go.RowKit

/-- what the reference's Parse of a value returns -/
def rvRet (R : Option Vl) : Ending := match R with | some v => .returned (.tuple #[.agg #[.int .i64 v.k, .int .i64 v.n, .string v.s], .bool true]) | none => .returned (.tuple #[.agg #[.int .i64 0, .int .i64 0, .string ⟨#[]⟩], .bool false])
/-- while a value is parsed by the reference: the result's block -/
def RP (w wr : World) (r : Vl) : Prop := VB wr w.heap.size r ∧ Below w.heap.size w wr
theorem VB.new (w : World) (v : Vl) : VB (w.alloc (.cells #[.int .i64 v.k, .int .i64 v.n, .string v.s] 39)) w.heap.size v := heap_alloc_new w _
theorem RP.new (w : World) (v : Vl) : RP w (w.alloc (.cells #[.int .i64 v.k, .int .i64 v.n, .string v.s] 39)) v := ⟨VB.new w v, below_alloc w _⟩
theorem RP.below {w wr w' : World} {r : Vl} (h : RP w wr r) (hb : Below wr.heap.size wr w') : RP w w' r := ⟨VB.below h.1 hb, below_then h.2 hb⟩
theorem RP.set {w wr : World} {r : Vl} (h : RP w wr r) (k n : Int) (s : ByteArray) : RP w (((wr.setCell ⟨w.heap.size, 0, none⟩ (.int .i64 k)).setCell ⟨w.heap.size, 1, none⟩ (.int .i64 n)).setCell ⟨w.heap.size, 2, none⟩ (.string s)) ⟨k, n, s⟩ :=
  ⟨VB.set h.1 k n s, ((h.2.setCell (Nat.le_refl _) _).setCell (Nat.le_refl _) _).setCell (Nat.le_refl _) _⟩
theorem valP_dec (l : List UInt8) (n : Int) (h : decX l = some n) : valP l = some ⟨2, n, ⟨#[]⟩⟩ := by
  unfold decX at h
  split at h
  · rename_i h2
    cases h
    have hv : (⟨2, numOf l, ⟨#[]⟩⟩ : Vl).ok = true := by rw [ok_num, h2.1]; rfl
    have := valP_tx _ hv
    rwa [tx_num, h2.2] at this
  · cases h
theorem valP_unq (l t : List UInt8) (h : unqS l = .ok t) (hv : (⟨3, 0, ⟨t.toArray⟩⟩ : Vl).ok = true) : valP l = some ⟨3, 0, ⟨t.toArray⟩⟩ := by
  cases l with
  | nil => cases h
  | cons c m =>
    unfold unqS at h
    simp only at h
    split at h
    · rename_i hc
      obtain rfl : c = 34 := UInt8.toNat_inj.1 hc
      rw [valP_lit m t h]
      exact valP_tx _ hv
    · cases h
theorem unqS_tx (t : List UInt8) (hp : t.all isPr = true) : unqS (quoteL t) = .ok t := by
  show unq (escL t ++ [34]) = .ok t
  unfold unq
  have h1 := quote_pr t hp
  have h2 : (escL t ++ [34]).all isPr = true := by
    have h3 : (34 :: (escL t ++ [34]) : List UInt8).all isPr = true := h1
    rw [List.all_cons] at h3
    exact (Bool.and_eq_true_iff.1 h3).2
  rw [if_pos h2, litF_quote]
  simp
theorem valP_none' (l : List UInt8) (h1 : l ≠ tTrue) (h2 : l ≠ tFalse) (h3 : decX l = none) (h4 : ∀ t, unqS l = .ok t → (⟨3, 0, ⟨t.toArray⟩⟩ : Vl).ok = false) : valP l = none := by
  cases hv : valP l with
  | none => rfl
  | some v =>
    exfalso
    obtain ⟨hok, htx⟩ := valP_some l v hv
    obtain ⟨k, n, s⟩ := v
    rcases val_cases _ hok with ⟨e1, e2, e3⟩ | ⟨e1, e2, e2b, e3⟩ | ⟨e1, e2, e3, e4⟩
    · simp only at e1 e2
      subst e1
      rcases e2 with rfl | rfl
      · exact h2 htx.symm
      · exact h1 htx.symm
    · simp only at e1 e2 e2b
      subst e1
      rw [tx_num] at htx
      unfold decX at h3
      rw [if_pos] at h3
      · cases h3
      · rw [← htx, numOf_itoa]
        exact ⟨by unfold numB; exact decide_eq_true ⟨e2, e2b⟩, rfl⟩
    · simp only at e1 e2 e3 e4
      subst e1 e2
      rw [tx_text] at htx
      have h5 := h4 s.data.toList (by rw [← htx]; exact unqS_tx _ e4)
      rw [show (⟨s.data.toList.toArray⟩ : ByteArray) = s from rfl] at h5
      rw [h5] at hok
      cases hok
theorem unqS_code (l : List UInt8) (k : Nat) (h : unqS l = .error k) : 1 ≤ k := by
  cases l with
  | nil => cases h; omega
  | cons c m =>
    unfold unqS at h
    simp only at h
    split at h
    · exact unq_code m k h
    · cases h; omega
theorem unqS_len (s : ByteArray) (t : List UInt8) (hs : s.size ≤ 16384) (h : unqS s.data.toList = .ok t) : t.length ≤ 16384 := by
  have hl := len_byte s
  cases hd : s.data.toList with
  | nil => rw [hd] at h; cases h
  | cons c m =>
    rw [hd] at h hl
    unfold unqS at h
    simp only at h
    split at h
    · have := litF_len _ _ (Nat.le_refl _) _ _ (unq_ok m t h).2
      rw [List.length_cons] at hl
      omega
    · cases h
theorem str_true (s : ByteArray) (h : s.data.toList = tTrue) : (s.toList == [116, 114, 117, 101]) = true := by
  rw [ByteArray.toList_eq, h]; decide
theorem str_false (s : ByteArray) (h : s.data.toList = tFalse) : (s.toList == [102, 97, 108, 115, 101]) = true := by
  rw [ByteArray.toList_eq, h]; decide
set_option maxHeartbeats 6400000 in
set_option maxRecDepth 100000 in
theorem rvparse_any (s : ByteArray) (w : World) (hs : s.size ≤ 16384) :
    Calls Tryz.prog 79 #[.string s] w fun e w' => e = rvRet (valP s.data.toList) ∧ Below w.heap.size w w' := by
  by_cases ht : s.data.toList = tTrue
  · have HR := Lib.hid (show valP s.data.toList = some ⟨1, 1, ⟨#[]⟩⟩ by rw [ht]; rfl)
    have b1 := str_true s ht
    have H0 := Lib.hid (RP.new w ⟨1, 1, ⟨#[]⟩⟩)
    clear ht
    go_enter Tryz.func79, Tryz.ntmps79
    go_wp2_with fail
    obtain ⟨d0, d1, d2, _, _, _⟩ := (VB.new w ⟨1, 1, ⟨#[]⟩⟩).cells
    simp only at d0 d1 d2
    exact bodyPost_ret (v := .tuple #[.agg #[.int .i64 (1), .int .i64 (1), .string ⟨#[]⟩], .bool true]) (by simp [results, Tryz.results79, go_sem, d0, d1, d2]) rfl ⟨by rw [HR.out]; rfl, below_alloc w _⟩
  have b1 := not_true s ht
  by_cases hf : s.data.toList = tFalse
  · have HR := Lib.hid (show valP s.data.toList = some ⟨1, 0, ⟨#[]⟩⟩ by rw [hf]; rfl)
    have b2 := str_false s hf
    have H0 := Lib.hid (RP.new w ⟨1, 0, ⟨#[]⟩⟩)
    clear ht hf
    go_enter Tryz.func79, Tryz.ntmps79
    go_wp2_with fail
    obtain ⟨d0, d1, d2, _, _, _⟩ := (VB.new w ⟨1, 0, ⟨#[]⟩⟩).cells
    simp only at d0 d1 d2
    exact bodyPost_ret (v := .tuple #[.agg #[.int .i64 (1), .int .i64 (0), .string ⟨#[]⟩], .bool true]) (by simp [results, Tryz.results79, go_sem, d0, d1, d2]) rfl ⟨by rw [HR.out]; rfl, below_alloc w _⟩
  have b2 := not_false s hf
  have HD := Lib.hid (fun w => rdecimal_any s w hs)
  have H0 := Lib.hid (RP.new w v0)
  cases hd : decX s.data.toList with
  | some n =>
    have HR := Lib.hid (valP_dec _ _ hd)
    rw [hd] at HD
    clear hd ht hf
    go_enter Tryz.func79, Tryz.ntmps79
    go_wp2_with fail
    ((with_reducible refine (HD.out _).mono ?_); rintro e w1 ⟨he, hw1⟩)
    subst he hw1
    go_wp2_with fail
    obtain ⟨d0, d1, d2, _, _, _⟩ := (VB.new w ⟨2, n, ⟨#[]⟩⟩).cells
    simp only at d0 d1 d2
    exact bodyPost_ret (v := .tuple #[.agg #[.int .i64 (2), .int .i64 (n), .string ⟨#[]⟩], .bool true]) (by simp [results, Tryz.results79, go_sem, d0, d1, d2]) rfl ⟨by rw [HR.out]; rfl, below_alloc w _⟩
  | none =>
    have HNone := Lib.hid (valP_none' _ ht hf hd)
    rw [hd] at HD
    have HU := Lib.hid (fun w => runquote_any s w hs)
    clear hd ht hf
    cases hu : unqS s.data.toList with
    | error k =>
      have hk : ((k : Int) != 0) = true := by have := unqS_code _ k hu; simp; omega
      have HR := Lib.hid (HNone.out (fun t ht => by rw [hu] at ht; cases ht))
      rw [hu] at HU
      have HU2 := Lib.hid (fun w => (show Calls Tryz.prog 102 #[.string s] w fun e w' => e = .returned (.tuple #[.string ⟨#[]⟩, .int .i64 (k : Int)]) ∧ Below w.heap.size w w' from HU.out w))
      clear hu HU HNone
      go_enter Tryz.func79, Tryz.ntmps79
      go_wp2_with fail
      ((with_reducible refine (HD.out _).mono ?_); rintro e w1 ⟨m, he, hw1⟩)
      subst he hw1
      go_wp2_with fail
      ((with_reducible refine (HU2.out _).mono ?_); rintro e w2 ⟨rfl, hb2⟩)
      replace H0 := Lib.hid (H0.out.below hb2)
      clear hb2
      replace H0 := Lib.hid (H0.out.below (below_alloc w2 (.cells #[.int .i64 3, .int .i64 0, .string ⟨#[]⟩] 39)))
      obtain ⟨d0, d1, d2, g0, g1, g2⟩ := H0.out.1.cells
      have HF := Lib.hid (H0.out.set 0 0 ⟨#[]⟩)
      simp only [v0] at d0 d1 d2
      go_wp2_with fail
      exact bodyPost_ret (v := .tuple #[.agg #[.int .i64 (0), .int .i64 (0), .string ⟨#[]⟩], .bool false]) (by simp [results, Tryz.results79, go_sem, d0, d1, d2]) rfl ⟨by rw [HR.out]; rfl, HF.out.2⟩
    | ok t =>
      obtain ⟨y, hy⟩ : ∃ y : ByteArray, y = ⟨t.toArray⟩ := ⟨_, rfl⟩
      rw [hu] at HU
      have HU2 := Lib.hid (fun w => (show Calls Tryz.prog 102 #[.string s] w fun e w' => e = .returned (.tuple #[.string y, .int .i64 0]) ∧ Below w.heap.size w w' by rw [hy]; exact HU.out w))
      have hys : y.size ≤ 16384 := by rw [← len_byte, hy]; exact unqS_len s t hs hu
      have HX := Lib.hid (fun w => rvvalid_any ⟨3, 0, y⟩ w (by show y.size ≤ _; omega))
      cases hv : (⟨3, 0, y⟩ : Vl).ok with
      | true =>
        have HR := Lib.hid (show valP s.data.toList = some ⟨3, 0, y⟩ by rw [hy]; exact valP_unq _ t hu (by rw [← hy]; exact hv))
        rw [hv] at HX
        clear hu HU HNone hy hv
        go_enter Tryz.func79, Tryz.ntmps79
        go_wp2_with fail
        ((with_reducible refine (HD.out _).mono ?_); rintro e w1 ⟨m, he, hw1⟩)
        subst he hw1
        go_wp2_with fail
        ((with_reducible refine (HU2.out _).mono ?_); rintro e w2 ⟨rfl, hb2⟩)
        replace H0 := Lib.hid (H0.out.below hb2)
        clear hb2
        go_wp2_with fail
        ((with_reducible refine (HX.out _).mono ?_); rintro e w3 ⟨rfl, hb3⟩)
        have HVB := Lib.hid (VB.below (VB.new w2 ⟨3, 0, y⟩) hb3)
        obtain ⟨c0, c1, c2, _, _, _⟩ := HVB.out.cells
        simp only at c0 c1 c2
        replace hb3 := below_then (below_alloc _ _) hb3
        replace H0 := Lib.hid (H0.out.below hb3)
        clear hb3
        obtain ⟨d0, d1, d2, g0, g1, g2⟩ := H0.out.1.cells
        have HF := Lib.hid (H0.out.set 3 0 y)
        simp only [v0] at d0 d1 d2
        go_wp2_with fail
        exact bodyPost_ret (v := .tuple #[.agg #[.int .i64 (3), .int .i64 (0), .string y], .bool true]) (by simp [results, Tryz.results79, go_sem, d0, d1, d2]) rfl ⟨by rw [HR.out]; rfl, HF.out.2⟩
      | false =>
        have HR := Lib.hid (HNone.out (fun t' ht => by rw [hu] at ht; cases ht; rw [← hy]; exact hv))
        rw [hv] at HX
        clear hu HU HNone hy hv
        go_enter Tryz.func79, Tryz.ntmps79
        go_wp2_with fail
        ((with_reducible refine (HD.out _).mono ?_); rintro e w1 ⟨m, he, hw1⟩)
        subst he hw1
        go_wp2_with fail
        ((with_reducible refine (HU2.out _).mono ?_); rintro e w2 ⟨rfl, hb2⟩)
        replace H0 := Lib.hid (H0.out.below hb2)
        clear hb2
        go_wp2_with fail
        ((with_reducible refine (HX.out _).mono ?_); rintro e w3 ⟨rfl, hb3⟩)
        replace hb3 := below_then (below_alloc _ _) hb3
        replace H0 := Lib.hid (H0.out.below hb3)
        clear hb3
        obtain ⟨d0, d1, d2, g0, g1, g2⟩ := H0.out.1.cells
        have HF := Lib.hid (H0.out.set 0 0 ⟨#[]⟩)
        simp only [v0] at d0 d1 d2
        go_wp2_with fail
        exact bodyPost_ret (v := .tuple #[.agg #[.int .i64 (0), .int .i64 (0), .string ⟨#[]⟩], .bool false]) (by simp [results, Tryz.results79, go_sem, d0, d1, d2]) rfl ⟨by rw [HR.out]; rfl, HF.out.2⟩
end
section
open Go.RowKit

/-- a field as a value -/
def Fd.val (f : Fd) : Value := .agg #[.string f.nm, .int .i64 f.v.k, .int .i64 f.v.n, .string f.v.s]
/-- a block that holds a field -/
def FB (w : World) (b : Nat) (f : Fd) : Prop := w.heap[b]? = some (.cells #[.string f.nm, .int .i64 f.v.k, .int .i64 f.v.n, .string f.v.s] 49 (0, 0))
theorem FB.lt {w : World} {b : Nat} {f : Fd} (h : FB w b f) : b < w.heap.size := by
  rcases Nat.lt_or_ge b w.heap.size with h2 | h2
  · exact h2
  · unfold FB at h; simp [Array.getElem?_eq_none h2] at h
theorem FB.cells {w : World} {b : Nat} {f : Fd} (h : FB w b f) :
    w.cell? ⟨b, 0, none⟩ = some (.string f.nm) ∧ w.cell? ⟨b, 1, none⟩ = some (.int .i64 f.v.k) ∧ w.cell? ⟨b, 2, none⟩ = some (.int .i64 f.v.n) ∧ w.cell? ⟨b, 3, none⟩ = some (.string f.v.s) ∧ w.frozen? ⟨b, 0, none⟩ = false ∧ w.frozen? ⟨b, 1, none⟩ = false ∧ w.frozen? ⟨b, 2, none⟩ = false ∧ w.frozen? ⟨b, 3, none⟩ = false := by
  unfold FB at h
  simp [World.cell?, World.frozen?, h]
theorem FB.below {w w' : World} {b : Nat} {f : Fd} (h : FB w b f) (hb : Below w.heap.size w w') : FB w' b f := by
  unfold FB at h ⊢
  rw [hb.block b (FB.lt h)]; exact h
theorem FB.new (w : World) (f : Fd) : FB (w.alloc (.cells #[.string f.nm, .int .i64 f.v.k, .int .i64 f.v.n, .string f.v.s] 49)) w.heap.size f := heap_alloc_new w _
/-- a block of four cells, one of which is stored -/
theorem four_set {w : World} {b : Nat} {T : TypeId} {x y z t : Value} (h : w.heap[b]? = some (.cells #[x, y, z, t] T (0, 0))) (u : Value) :
    (w.setCell ⟨b, 0, none⟩ u).heap[b]? = some (.cells #[u, y, z, t] T (0, 0)) ∧ (w.setCell ⟨b, 1, none⟩ u).heap[b]? = some (.cells #[x, u, z, t] T (0, 0)) ∧ (w.setCell ⟨b, 2, none⟩ u).heap[b]? = some (.cells #[x, y, u, t] T (0, 0)) ∧ (w.setCell ⟨b, 3, none⟩ u).heap[b]? = some (.cells #[x, y, z, u] T (0, 0)) := by
  have hlt : b < w.heap.size := by
    rcases Nat.lt_or_ge b w.heap.size with h2 | h2
    · exact h2
    · simp [Array.getElem?_eq_none h2] at h
  have h' : w.heap[b] = .cells #[x, y, z, t] T (0, 0) := by simpa [Array.getElem?_eq_getElem hlt] using h
  refine ⟨?_, ?_, ?_, ?_⟩ <;>
  · show (w.heap.modify b _)[b]? = _
    rw [Array.getElem?_eq_getElem (by simpa using hlt), Array.getElem_modify_self, h']; rfl
theorem FB.set {w : World} {b : Nat} {f : Fd} (h : FB w b f) (nm : ByteArray) (k n : Int) (s : ByteArray) : FB ((((w.setCell ⟨b, 0, none⟩ (.string nm)).setCell ⟨b, 1, none⟩ (.int .i64 k)).setCell ⟨b, 2, none⟩ (.int .i64 n)).setCell ⟨b, 3, none⟩ (.string s)) b ⟨nm, ⟨k, n, s⟩⟩ :=
  (four_set (four_set (four_set (four_set h (.string nm)).1 (.int .i64 k)).2.1 (.int .i64 n)).2.2.1 (.string s)).2.2.2
def f0 : Fd := ⟨⟨#[]⟩, v0⟩
/-- what the reference's field returns -/
def FPost (s : ByteArray) (w : World) (e : Ending) (w' : World) : Prop :=
  ∃ (f : Fd) (b : Bool), e = .returned (.tuple #[f.val, .bool b]) ∧ Below w.heap.size w w' ∧ f.nm.size ≤ 16384 ∧ f.v.s.size ≤ 16384 ∧ ∀ g : Fd, isNameB g.nm.data.toList = true → g.v.ok = true → s.data.toList = g.tx → f = g ∧ b = true
theorem no_eq (l : List UInt8) (h : ∀ c ∈ l, c ≠ 61) (g : Fd) : l ≠ g.tx := by
  intro e
  refine h 61 ?_ rfl
  rw [e]; unfold Fd.tx; simp
theorem eq_at (l r : List UInt8) (k : Nat) (g : Fd) (hk : l.drop k = 61 :: r) (h : ∀ c ∈ l.take k, c ≠ 61) (hn : isNameB g.nm.data.toList = true) (e : l = g.tx) : l.take k = g.nm.data.toList ∧ r = g.v.tx := by
  have h1 : Lib.cut l [61] = (l.take k, r, true) := by
    have := cut_eq (l.take k) r h
    rwa [← hk, List.take_append_drop] at this
  have h2 : Lib.cut l [61] = (g.nm.data.toList, g.v.tx, true) := by
    rw [e]; unfold Fd.tx; exact cut_eq _ _ (name_eq _ hn)
  rw [h1] at h2
  have h3 := Prod.mk.inj h2
  exact ⟨h3.1, (Prod.mk.inj h3.2).1⟩
theorem rv_one (l : List UInt8) : ∃ (u : Vl) (b : Bool), rvRet (valP l) = .returned (.tuple #[.agg #[.int .i64 u.k, .int .i64 u.n, .string u.s], .bool b]) ∧ u.s.size ≤ 16384 ∧ ∀ x : Vl, x.ok = true → l = x.tx → u = x ∧ b = true := by
  cases hv : valP l with
  | none => exact ⟨v0, false, rfl, by decide, fun x hx e => by rw [e, valP_tx x hx] at hv; cases hv⟩
  | some v => exact ⟨v, true, rfl, by have := val_small v (valP_some l v hv).1; omega, fun x hx e => by rw [e, valP_tx x hx] at hv; exact ⟨(Option.some.inj hv).symm, rfl⟩⟩
set_option maxHeartbeats 3200000 in
set_option maxRecDepth 100000 in
theorem rfield_any (s : ByteArray) (w : World) (hs : s.size ≤ 16384) : Calls Tryz.prog 46 #[.string s] w (FPost s w) := by
  have H0 := Lib.hid (And.intro (FB.new w f0) (below_alloc w (.cells #[.string f0.nm, .int .i64 f0.v.k, .int .i64 f0.v.n, .string f0.v.s] 49)))
  go_enter Tryz.func46, Tryz.ntmps46
  go_wp2_with fail
  go_loopg [4] (s.size) (fun g i wr => ∃ k : Nat, k + g = s.size ∧ i = .int .i64 k ∧ (∀ c ∈ s.data.toList.take k, c ≠ 61) ∧ FB wr w.heap.size f0 ∧ Below w.heap.size w wr)
  case atStart => exact ⟨0, by omega, rfl, by simp, H0.out⟩
  case round =>
    obtain ⟨k, hk, rfl, hb, hF, hB⟩ := hrel
    have HK := Lib.hid hk
    have HBy := Lib.hid hb
    have HF := Lib.hid hF
    have HB := Lib.hid hB
    have hle : k ≤ s.size := by omega
    clear hk hb H0 hF hB
    by_cases hlt : k < s.size
    · have hlt2 : (k : Int) < (s.size : Int) := by omega
      by_cases h61 : (s[k].toNat : Int) = 61
      · have q1 : ((s[k].toNat : Int) == 61) = true := by rw [h61]; rfl
        have HC := Lib.hid (drop_byte s k hlt)
        have h61b : s[k] = 61 := UInt8.toNat_inj.1 (by show s[k].toNat = 61; omega)
        rw [h61b] at HC
        have hex : (s.extract (k + 1) s.size).size ≤ 16384 := by rw [← len_byte, ext_list, List.length_drop, len_byte]; omega
        have HP := Lib.hid (fun w => rvparse_any (s.extract (k + 1) s.size) w hex)
        rw [ext_list] at HP
        clear h61 h61b
        obtain ⟨u, b, hret, hus, hval⟩ := rv_one (s.data.toList.drop (k + 1))
        have HVal := Lib.hid hval
        have HUs := Lib.hid hus
        rw [hret] at HP
        clear hret hval hus
        go_wp2_with fail
        ((with_reducible refine (HP.out _).mono ?_); rintro e w1 ⟨rfl, hb1⟩)
        go_wp2_with fail
        have HV2 := Lib.hid (VB.new w1 u)
        have HF2 := Lib.hid (FB.below HF.out (below_then hb1 (below_alloc w1 (.cells #[.int .i64 u.k, .int .i64 u.n, .string u.s] 39))))
        have HB2 := Lib.hid (below_then HB.out (below_then hb1 (below_alloc w1 (.cells #[.int .i64 u.k, .int .i64 u.n, .string u.s] 39))))
        clear hb1
        generalize w1.alloc _ = w2 at HV2 HF2 HB2 ⊢
        obtain ⟨c0, c1, c2, _, _, _⟩ := HV2.out.cells
        obtain ⟨d0, d1, d2, d3, g0, g1, g2, g3⟩ := HF2.out.cells
        simp only [f0, v0] at d0 d1 d2 d3
        go_region
        go_wp2_with fail
        have HE := Lib.hid (show (s.extract 0 k).data.toList = s.data.toList.take k by
          rw [Lib.extract_data s 0 k]; simp)
        have hns : (s.extract 0 k).size ≤ 16384 := by rw [← len_byte, HE.out, List.length_take]; have := len_byte s; omega
        exact bodyPost_ret (v := .tuple #[.agg #[.string (s.extract 0 k), .int .i64 u.k, .int .i64 u.n, .string u.s], .bool b]) (by simp [results, Tryz.results46, go_sem, d0, d1, d2, d3]) rfl ⟨⟨s.extract 0 k, u⟩, b, rfl, below_then ((((HB2.out.setCell (Nat.le_refl _) _).setCell (Nat.le_refl _) _).setCell (Nat.le_refl _) _).setCell (Nat.le_refl _) _) (below_drewN _ 1), hns, HUs.out, fun g hg1 hg2 hg3 => by
          obtain ⟨e1, e2⟩ := eq_at _ _ k g HC.out HBy.out hg1 hg3
          obtain ⟨e3, e4⟩ := HVal.out g.v hg2 e2
          refine ⟨?_, e4⟩
          obtain ⟨gn, gv⟩ := g
          simp only at e1 e3
          rw [e3, bytes_ext (show (s.extract 0 k).data.toList = gn.data.toList by rw [HE.out]; exact e1)]⟩
      · have q1 : ((s[k].toNat : Int) == 61) = false := by simpa using h61
        have HN := Lib.hid (show ∀ c ∈ s.data.toList.take (k + 1), c ≠ 61 by
          intro c hc
          rw [take_byte s k hlt] at hc
          rcases List.mem_append.1 hc with h | h
          · exact HBy.out c h
          · have : c = s[k] := by simpa using h
            subst this
            intro h2; exact h61 (by rw [h2]; rfl))
        clear h61
        go_wp2_with fail
        go_roundg (gk - 1)
        case measure => have := HK.out; omega
        case rel => exact ⟨k + 1, by have := HK.out; omega, by go_num, HN.out, HF.out, HB.out⟩
    · have HN := Lib.hid (show ∀ c ∈ s.data.toList, c ≠ 61 by
        have := HBy.out
        rwa [List.take_of_length_le (by rw [len_byte]; omega)] at this)
      obtain ⟨d0, d1, d2, d3, g0, g1, g2, g3⟩ := HF.out.cells
      simp only [f0, v0] at d0 d1 d2 d3
      go_wp2_with fail
      exact bodyPost_ret (v := .tuple #[.agg #[.string ⟨#[]⟩, .int .i64 0, .int .i64 0, .string ⟨#[]⟩], .bool false]) (by simp [results, Tryz.results46, go_sem, d0, d1, d2, d3]) rfl ⟨f0, false, rfl, (((HB.out.setCell (Nat.le_refl _) _).setCell (Nat.le_refl _) _).setCell (Nat.le_refl _) _).setCell (Nat.le_refl _) _, by decide, by decide, fun g _ _ hg3 => absurd hg3 (no_eq _ HN.out g)⟩
end
section
open Go.RowKit

theorem bare_no (l : List UInt8) (x : UInt8) (hx : x ∈ l) (h : (x.toNat : Int) = 32 ∨ (x.toNat : Int) = 34) : bareB l = false := by
  cases hb : bareB l with
  | false => rfl
  | true =>
    unfold bareB at hb
    have h2 := (Bool.and_eq_true_iff.1 hb).2
    have h3 := List.all_eq_true.1 h2 x hx
    unfold isBw at h3
    simp at h3
    omega
theorem bare_yes (l : List UInt8) (h : ∀ x ∈ l, isBw x = true ∧ x.toNat ≠ 34) : bareB l = !l.isEmpty := by
  unfold bareB
  have : l.all (fun c => isBw c && !decide (c.toNat = 34)) = true := List.all_eq_true.2 fun x hx => by simp [h x hx]
  rw [this, Bool.and_true]
theorem take_on (s : ByteArray) (k : Nat) (h : k < s.size) (hb : ∀ x ∈ s.data.toList.take k, isBw x = true ∧ x.toNat ≠ 34) (h1 : (s[k].toNat : Int) ≠ 32) (h2 : (s[k].toNat : Int) ≠ 34) : ∀ x ∈ s.data.toList.take (k + 1), isBw x = true ∧ x.toNat ≠ 34 := by
  have := bytes_at2 s 0 k (Nat.zero_le _) h (by simpa using hb) h1 h2
  simpa using this
theorem mem_byte (s : ByteArray) (k : Nat) (h : k < s.size) : s[k] ∈ s.data.toList := by
  have := drop_byte s k h
  exact List.mem_of_mem_drop (by rw [this]; exact List.mem_cons_self)
set_option maxHeartbeats 1600000 in
theorem rbare_any (s : ByteArray) (w : World) (hs : s.size ≤ 1099511627776) : Calls Tryz.prog 70 #[.string s] w fun e w' => e = .returned (.bool (bareB s.data.toList)) ∧ w = w' := by
  generalize hR : bareB s.data.toList = R
  have HR := Lib.hid hR; clear hR
  go_enter Tryz.func70, Tryz.ntmps70
  go_wp2_with fail
  go_loopg [3] (s.size) (fun g i wr => ∃ k : Nat, k + g = s.size ∧ i = .int .i64 k ∧ (∀ x ∈ s.data.toList.take k, isBw x = true ∧ x.toNat ≠ 34) ∧ w = wr)
  case atStart => exact ⟨0, by omega, rfl, by simp, rfl⟩
  case round =>
    obtain ⟨k, hk, rfl, hb, rfl⟩ := hrel
    have HK := Lib.hid hk
    have HBy := Lib.hid hb
    have hle : k ≤ s.size := by omega
    clear hk hb
    by_cases hlt : k < s.size
    · by_cases h32 : (s[k].toNat : Int) = 32
      · have q1 : ((s[k].toNat : Int) == 32) = true := by rw [h32]; rfl
        have HV := Lib.hid (show R = false by rw [← HR.out]; exact bare_no _ _ (mem_byte s k hlt) (.inl h32))
        clear h32
        go_wp2_with fail
        go_ret
        exact ⟨ret_bool HV.out.symm, rfl⟩
      · have q1 : ((s[k].toNat : Int) == 32) = false := by simpa using h32
        have H32 := Lib.hid h32; clear h32
        by_cases h34 : (s[k].toNat : Int) = 34
        · have q2 : ((s[k].toNat : Int) == 34) = true := by rw [h34]; rfl
          have HV := Lib.hid (show R = false by rw [← HR.out]; exact bare_no _ _ (mem_byte s k hlt) (.inr h34))
          clear h34
          go_wp2_with fail
          go_ret
          exact ⟨ret_bool HV.out.symm, rfl⟩
        · have q2 : ((s[k].toNat : Int) == 34) = false := by simpa using h34
          have HN := Lib.hid (take_on s k hlt HBy.out H32.out h34)
          clear h34
          go_wp2_with fail
          go_roundg (gk - 1)
          case measure => have := HK.out; omega
          case rel => exact ⟨k + 1, by have := HK.out; omega, by go_num, HN.out, rfl⟩
    · obtain rfl : k = s.size := by omega
      have HN := Lib.hid (bare_yes s.data.toList (by have := HBy.out; rw [List.take_of_length_le (by rw [len_byte]; omega)] at this; exact this))
      have HE := Lib.hid (show (!s.toList.isEmpty) = R by rw [← HR.out, HN.out, ByteArray.toList_eq])
      clear hlt
      go_wp2_with fail
      go_ret
      exact ⟨ret_bool HE.out, rfl⟩
theorem RB.below2 {w wr w' : World} {v : Value} {acc : List UInt8} (h : RB w wr v acc) (hb : Below wr.heap.size wr w') : RB w w' v acc := ⟨own_stays h.1 hb, below_then h.2 hb⟩
theorem RB.pushS {w wr w' : World} {v v' : Value} {acc : List UInt8} {x : ByteArray} (h : RB w wr v acc) (ho : w'.ownsRow w.heap.size 5 1 v' (acc.length + x.size) (Lib.byteCells acc ++ Lib.strCells x)) (hg : wr.grownBy w' v.ownBlock) : RB w w' v' (acc ++ x.data.toList) := by
  refine ⟨?_, h.2.grown hg h.size (fun k hk => (h.1.lt k hk).1)⟩
  rw [List.length_append, len_byte, show Lib.byteCells (acc ++ x.data.toList) = Lib.byteCells acc ++ Lib.strCells x by simp [Lib.byteCells, Lib.strCells]]
  exact ho
theorem line_take_len (L : List (List UInt8)) : ∀ k : Nat, (lineL (L.take k)).length ≤ (lineL L).length := by
  induction L with
  | nil => intro k; rw [List.take_nil]; exact Nat.le_refl _
  | cons x L ih =>
    intro k
    cases k with
    | zero => exact Nat.zero_le _
    | succ k =>
      rw [List.take_succ_cons]
      cases L with
      | nil => rw [List.take_nil]; exact Nat.le_refl _
      | cons y L =>
        have := ih k
        cases k with
        | zero => rw [List.take_zero, lineL_one, lineL_cons, List.length_append]; omega
        | succ k =>
          rw [List.take_succ_cons] at this ⊢
          rw [lineL_cons, lineL_cons, List.length_append, List.length_append, List.length_cons, List.length_cons]
          omega
theorem line_take (L : List (List UInt8)) (k : Nat) (h : k < L.length) : lineL (L.take (k + 1)) = if k = 0 then partL L[k] else lineL (L.take k) ++ 32 :: partL L[k] := by
  rw [List.take_succ_eq_append_getElem h, lineL_snoc]
  by_cases hk : k = 0
  · subst hk; simp
  · rw [if_neg hk, if_neg]
    intro e
    have := congrArg List.length e
    rw [List.length_take, List.length_nil] at this
    omega
set_option maxHeartbeats 12800000 in
set_option maxRecDepth 100000 in
theorem rjoin_ok (A : Option Addr) (n cap : Nat) (L : List ByteArray) (w : World) (h : SIn w A L) (hn : L.length = n) (hn4 : n ≤ 1000) (hu : ∀ t ∈ L, t.size ≤ 16384) (hp : ∀ t ∈ L, t.data.toList.all isPr = true) (hl : (lineL (L.map (·.data.toList))).length ≤ 16384) :
    Calls Tryz.prog 38 #[.slice A n cap] w fun e w' => e = .returned (.tuple #[.string ⟨(lineL (L.map (·.data.toList))).toArray⟩, .int .i64 0]) ∧ Below w.heap.size w w' := by
  have H0 := Lib.hid h; clear h
  have HU := Lib.hid hu; clear hu
  have HP := Lib.hid hp; clear hp
  have HN := Lib.hid hn; clear hn
  generalize hLL : L.map (·.data.toList) = LL at hl ⊢
  have HLN := Lib.hid (fun k => Nat.le_trans (line_take_len LL k) hl)
  have HLE := Lib.hid (show ∀ (k : Nat) (h : k < L.length), lineL (LL.take (k + 1)) = if k = 0 then partL L[k].data.toList else lineL (LL.take k) ++ 32 :: partL L[k].data.toList by
    intro k h
    have := line_take LL k (by rw [← hLL, List.length_map]; exact h)
    rw [this]; subst hLL; simp only [List.getElem_map])
  have HALL := Lib.hid (show LL.take n = LL by rw [List.take_of_length_le]; rw [← hLL, List.length_map]; exact Nat.le_of_eq HN.out)
  have hLz : lineL (LL.take 0) = [] := rfl
  have HLZ := Lib.hid hLz
  clear hLL hl hLz
  obtain ⟨i0, hi, hz0, hz1, hz2⟩ := info_parts byteInfo
  have HI := Lib.hid (And.intro hi (And.intro hz0 (And.intro hz1 hz2)))
  have HRB := Lib.hid (RB.start0 w)
  clear hi hz0 hz1 hz2
  go_enter Tryz.func38, Tryz.ntmps38
  go_wp2_with fail
  go_loopg [4] (n) (fun g i wr => ∃ k : Nat, k + g = n ∧ i = .int .i64 k ∧ w = wr)
  case atStart => exact ⟨0, by omega, rfl, rfl⟩
  case round =>
    obtain ⟨k, hk, rfl, rfl⟩ := hrel
    have HK := Lib.hid hk
    have hle : k ≤ n := by omega
    clear hk
    by_cases hlt : k < n
    · have hlt' : k < L.length := by rw [HN.out]; exact hlt
      obtain ⟨ad, rfl, hpp, c0⟩ := H0.out k hlt'
      have HX := Lib.hid (fun w => sprintable_any L[k] w (by have := HU.out _ (List.getElem_mem hlt'); omega))
      rw [HP.out _ (List.getElem_mem hlt')] at HX
      generalize L[k] = x at *
      go_wp2_with fail
      ((with_reducible refine (HX.out _).mono ?_); rintro e w1 ⟨rfl, rfl⟩)
      go_wp2_with fail
      go_roundg (gk - 1)
      case measure => have := HK.out; omega
      case rel => exact ⟨k + 1, by have := HK.out; omega, by go_num, rfl⟩
    · go_wp2_with fail
      clear hlt hle HK
      go_loopg [5, 6] (n) (fun g vx i wr => ∃ (k : Nat) (v : Value), k + g = n ∧ i = .int .i64 k ∧ v = vx ∧ RB w wr v (lineL (LL.take k)))
      case atStart => exact ⟨0, _, by omega, rfl, rfl, by rw [HLZ.out]; exact HRB.out⟩
      case round =>
        obtain ⟨k, v, hk, rfl, rfl, hS⟩ := hrel
        have HK := Lib.hid hk
        have HS := Lib.hid hS
        have HSI := Lib.hid (H0.out.below hS.2)
        have hle : k ≤ n := by omega
        obtain ⟨acc, hacc⟩ : ∃ a, a = lineL (LL.take k) := ⟨_, rfl⟩
        have hal : acc.length ≤ 16384 := by rw [hacc]; exact HLN.out k
        rw [← hacc] at HS hS
        obtain ⟨vo, vc, rfl⟩ := hS.slice
        have HA := Lib.hid hacc
        clear hk hS hacc HRB
        by_cases hlt : k < n
        · have hlt' : k < L.length := by rw [HN.out]; exact hlt
          obtain ⟨ad, rfl, hpp, c0⟩ := HSI.out k hlt'
          have hux := HU.out _ (List.getElem_mem hlt')
          have HT := Lib.hid (HLE.out k hlt')
          rw [← HA.out] at HT
          have HTL := Lib.hid (HLN.out (k + 1))
          generalize hnx : lineL (LL.take (k + 1)) = nx at HT HTL
          have HNX := Lib.hid hnx
          clear hnx
          generalize hx : L[k] = x at *
          have HXE := Lib.hid hx
          clear hx
          have HBr := Lib.hid (fun w => rbare_any x w (by omega))
          have HLt := Lib.hid (fun w => rlit_any x w (by omega))
          by_cases hk0 : k = 0
          · rw [if_pos hk0] at HT
            obtain rfl : acc = [] := by rw [HA.out, hk0]; exact HLZ.out
            have hk1 : (k : Int) ≤ 0 := by omega
            clear HA hk0
            cases hb : bareB x.data.toList with
            | true =>
              rw [hb] at HBr
              rw [show partL x.data.toList = x.data.toList by unfold partL; rw [hb]; rfl] at HT
              clear hb
              go_wp2_with fail
              ((with_reducible refine (HBr.out _).mono ?_); rintro e w3 ⟨rfl, rfl⟩)
              go_wp2_with (at_builtin; refine Lib.wpList_append_own_string _ rfl _ _ 97 9 rfl w.heap.size 5 i0 Tryz.underlying97 Tryz.underlying9 HI.out.1 HI.out.2.1 HI.out.2.2.1 HI.out.2.2.2 (.slice vo ([] : List UInt8).length vc) _ _ rfl HS.out.own x rfl ?c3 ?c4 ?c5 ?_)
              case c3 => unfold maxLen; omega
              case c4 => omega
              case c5 => have := HS.out.size; omega
              intro v' w7 hown hgrow _
              replace HS := Lib.hid (HS.out.pushS (x := x) (by simpa using hown) hgrow)
              clear hown hgrow
              obtain ⟨acc3, h3⟩ : ∃ a, a = ([] : List UInt8) ++ x.data.toList := ⟨_, rfl⟩
              rw [← h3] at HS
              have HX := Lib.hid (show nx = acc3 by rw [HT.out, h3]; simp)
              have h3l : acc3.length ≤ 16384 := by rw [← HX.out]; exact HTL.out
              obtain ⟨vo3, vc3, rfl⟩ := HS.out.slice
              clear h3
              go_wp2_with fail
              go_roundg (gk - 1)
              case measure => have := HK.out; omega
              case rel => exact ⟨k + 1, _, by have := HK.out; omega, by go_num, rfl, by rw [HNX.out, HX.out]; exact HS.out⟩
            | false =>
              rw [hb] at HBr
              rw [show partL x.data.toList = quoteL x.data.toList by unfold partL; rw [hb]; rfl] at HT
              clear hb
              obtain ⟨y, hy⟩ : ∃ y : ByteArray, y = ⟨(quoteL x.data.toList).toArray⟩ := ⟨_, rfl⟩
              rw [show quoteL x.data.toList = y.data.toList by rw [hy]] at HT
              rw [← hy] at HLt
              have hyl : y.size ≤ 16384 := by have := HTL.out; rw [HT.out] at this; rw [← len_byte]; simp at this ⊢; omega
              clear hy
              go_wp2_with fail
              ((with_reducible refine (HBr.out _).mono ?_); rintro e w3 ⟨rfl, rfl⟩)
              go_wp2_with fail
              ((with_reducible refine (HLt.out _).mono ?_); rintro e w4 ⟨rfl, hb4⟩)
              replace HS := Lib.hid (HS.out.below2 hb4)
              clear hb4
              go_wp2_with (at_builtin; refine Lib.wpList_append_own_string _ rfl _ _ 97 9 rfl w.heap.size 5 i0 Tryz.underlying97 Tryz.underlying9 HI.out.1 HI.out.2.1 HI.out.2.2.1 HI.out.2.2.2 (.slice vo ([] : List UInt8).length vc) _ _ rfl HS.out.own y rfl ?c3 ?c4 ?c5 ?_)
              case c3 => unfold maxLen; omega
              case c4 => omega
              case c5 => have := HS.out.size; omega
              intro v' w7 hown hgrow _
              replace HS := Lib.hid (HS.out.pushS (x := y) (by simpa using hown) hgrow)
              clear hown hgrow
              obtain ⟨acc3, h3⟩ : ∃ a, a = ([] : List UInt8) ++ y.data.toList := ⟨_, rfl⟩
              rw [← h3] at HS
              have HX := Lib.hid (show nx = acc3 by rw [HT.out, h3]; simp)
              have h3l : acc3.length ≤ 16384 := by rw [← HX.out]; exact HTL.out
              obtain ⟨vo3, vc3, rfl⟩ := HS.out.slice
              clear h3
              go_wp2_with fail
              go_roundg (gk - 1)
              case measure => have := HK.out; omega
              case rel => exact ⟨k + 1, _, by have := HK.out; omega, by go_num, rfl, by rw [HNX.out, HX.out]; exact HS.out⟩
          · rw [if_neg hk0] at HT
            have hk1 : 0 < k := by omega
            clear hk0
            go_wp2_with (at_builtin; refine wpList_append_own _ rfl _ _ 97 rfl w.heap.size 5 i0 (.int .u8 0) 1 1 Tryz.underlying97 HI.out.1 HI.out.2.1 HI.out.2.2.1 HI.out.2.2.2 rfl (by decide) (.slice vo acc.length vc) _ _ rfl (HS.out.own.alloc _) ⟨wr.heap.size, 0, none⟩ 1 1 [.int .u8 32] rfl rfl ?c1 ?c2 ?c3 ?c4 ?c5 ?_)
            case c1 => intro j u hj; match j, hj with | 0, hj => simp at hj; subst hj; simp [Addr.add] | j + 1, hj => simp at hj
            case c2 => intro u hu; simp at hu; subst hu; rfl
            case c3 => unfold maxLen; omega
            case c4 => omega
            case c5 => have := HS.out.size; simp; omega
            intro vN w2 hown hgrow _
            have hsz := hgrow.size
            replace HS := Lib.hid (HS.out.push (c := 32) (by simpa using hown) hgrow (own_len _ _ _ _))
            replace HSI := Lib.hid (H0.out.below HS.out.2)
            obtain ⟨acc2, h2⟩ : ∃ a, a = acc ++ [32] := ⟨_, rfl⟩
            rw [← h2] at HS
            have HA2 := Lib.hid h2
            have h2l : acc2.length ≤ 16385 := by rw [h2, List.length_append, List.length_singleton]; omega
            clear hown hgrow hsz hpp c0 h2
            obtain ⟨ad2, hade, hpp, c0⟩ := HSI.out k hlt'
            obtain rfl : ad = ad2 := Option.some.inj hade
            clear hade
            rw [HXE.out] at c0
            obtain ⟨vo2, vc2, rfl⟩ := HS.out.slice
            cases hb : bareB x.data.toList with
            | true =>
              rw [hb] at HBr
              rw [show partL x.data.toList = x.data.toList by unfold partL; rw [hb]; rfl] at HT
              clear hb
              go_wp2_with fail
              ((with_reducible refine (HBr.out _).mono ?_); rintro e w3 ⟨rfl, rfl⟩)
              go_wp2_with (at_builtin; refine Lib.wpList_append_own_string _ rfl _ _ 97 9 rfl w.heap.size 5 i0 Tryz.underlying97 Tryz.underlying9 HI.out.1 HI.out.2.1 HI.out.2.2.1 HI.out.2.2.2 (.slice vo2 acc2.length vc2) _ _ rfl HS.out.own x rfl ?c3 ?c4 ?c5 ?_)
              case c3 => unfold maxLen; omega
              case c4 => omega
              case c5 => have := HS.out.size; omega
              intro v' w7 hown hgrow _
              replace HS := Lib.hid (HS.out.pushS (x := x) (by simpa using hown) hgrow)
              clear hown hgrow
              obtain ⟨acc3, h3⟩ : ∃ a, a = acc2 ++ x.data.toList := ⟨_, rfl⟩
              rw [← h3] at HS
              have HX := Lib.hid (show nx = acc3 by rw [HT.out, h3]; rw [HA2.out]; simp)
              have h3l : acc3.length ≤ 16384 := by rw [← HX.out]; exact HTL.out
              obtain ⟨vo3, vc3, rfl⟩ := HS.out.slice
              clear h3
              go_wp2_with fail
              go_roundg (gk - 1)
              case measure => have := HK.out; omega
              case rel => exact ⟨k + 1, _, by have := HK.out; omega, by go_num, rfl, by rw [HNX.out, HX.out]; exact HS.out⟩
            | false =>
              rw [hb] at HBr
              rw [show partL x.data.toList = quoteL x.data.toList by unfold partL; rw [hb]; rfl] at HT
              clear hb
              obtain ⟨y, hy⟩ : ∃ y : ByteArray, y = ⟨(quoteL x.data.toList).toArray⟩ := ⟨_, rfl⟩
              rw [show quoteL x.data.toList = y.data.toList by rw [hy]] at HT
              rw [← hy] at HLt
              have hyl : y.size ≤ 16384 := by have := HTL.out; rw [HT.out] at this; rw [← len_byte]; simp at this ⊢; omega
              clear hy
              go_wp2_with fail
              ((with_reducible refine (HBr.out _).mono ?_); rintro e w3 ⟨rfl, rfl⟩)
              go_wp2_with fail
              ((with_reducible refine (HLt.out _).mono ?_); rintro e w4 ⟨rfl, hb4⟩)
              replace HS := Lib.hid (HS.out.below2 hb4)
              clear hb4
              go_wp2_with (at_builtin; refine Lib.wpList_append_own_string _ rfl _ _ 97 9 rfl w.heap.size 5 i0 Tryz.underlying97 Tryz.underlying9 HI.out.1 HI.out.2.1 HI.out.2.2.1 HI.out.2.2.2 (.slice vo2 acc2.length vc2) _ _ rfl HS.out.own y rfl ?c3 ?c4 ?c5 ?_)
              case c3 => unfold maxLen; omega
              case c4 => omega
              case c5 => have := HS.out.size; omega
              intro v' w7 hown hgrow _
              replace HS := Lib.hid (HS.out.pushS (x := y) (by simpa using hown) hgrow)
              clear hown hgrow
              obtain ⟨acc3, h3⟩ : ∃ a, a = acc2 ++ y.data.toList := ⟨_, rfl⟩
              rw [← h3] at HS
              have HX := Lib.hid (show nx = acc3 by rw [HT.out, h3]; rw [HA2.out]; simp)
              have h3l : acc3.length ≤ 16384 := by rw [← HX.out]; exact HTL.out
              obtain ⟨vo3, vc3, rfl⟩ := HS.out.slice
              clear h3
              go_wp2_with fail
              go_roundg (gk - 1)
              case measure => have := HK.out; omega
              case rel => exact ⟨k + 1, _, by have := HK.out; omega, by go_num, rfl, by rw [HNX.out, HX.out]; exact HS.out⟩
        · obtain rfl : k = n := by omega
          rw [HALL.out] at HA
          have HCV := Lib.hid (conv_all wr w.heap.size acc.length vc vo acc rfl HS.out.own)
          go_wp2_with fail
          rw [HCV.out]
          simp only [Result.andThen]
          rw [Oper.upon_value]
          go_wp2_with fail
          go_ret2
          exact ⟨ret_si (show (⟨acc.toArray⟩ : ByteArray) = ⟨(lineL LL).toArray⟩ by rw [HA.out]), HS.out.2⟩
end
section
open Go.RowKit

theorem rword_any (n : Int) (w : World) (h1 : 1 ≤ n) (h6 : n ≤ 6) : Calls Tryz.prog 35 #[.int .i64 n] w fun e w' => e = .returned (.string (lifeB n)) ∧ w = w' := by
  have hn : n = 1 ∨ n = 2 ∨ n = 3 ∨ n = 4 ∨ n = 5 ∨ n = 6 := by omega
  rcases hn with rfl | rfl | rfl | rfl | rfl | rfl <;>
  · go_enter Tryz.func35, Tryz.ntmps35
    go_wp2_with fail
    go_ret
    exact ⟨rfl, rfl⟩
/-- the number with a text of digits -/
def numX (l : List UInt8) : Option Nat := if (1 ≤ l.length ∧ l.length ≤ 15 ∧ ¬ (1 < l.length ∧ l.head? = some 48)) ∧ l.all isDig = true then some (dval l) else none
def NumPost (R : Option Nat) (w : World) (e : Ending) (w' : World) : Prop := match R with
  | some n => e = .returned (.tuple #[.int .i64 (n : Int), .bool true]) ∧ w = w'
  | none => e = .returned (.tuple #[.int .i64 0, .bool false]) ∧ w = w'
theorem numX_no (l : List UInt8) (h : ¬ (1 ≤ l.length ∧ l.length ≤ 15 ∧ ¬ (1 < l.length ∧ l.head? = some 48))) : numX l = none := by unfold numX; rw [if_neg (fun h2 => h h2.1)]
theorem numX_bad (l : List UInt8) (c : UInt8) (hc : c ∈ l) (h : isDig c = false) : numX l = none := by
  unfold numX
  rw [if_neg]
  rintro ⟨_, h2⟩
  have := List.all_eq_true.1 h2 c hc
  rw [h] at this; cases this
theorem numX_yes (l : List UInt8) (h : 1 ≤ l.length ∧ l.length ≤ 15 ∧ ¬ (1 < l.length ∧ l.head? = some 48)) (hd : ∀ c ∈ l, isDig c = true) : numX l = some (dval l) := by
  unfold numX; rw [if_pos ⟨h, List.all_eq_true.2 hd⟩]
theorem dec_lead (u : Nat) : ∀ r, Lib.decDigits u = 48 :: r → r = [] := by
  refine dec_induct (P := fun u l => ∀ r, l = 48 :: r → r = []) ?_ ?_ u
  · intro u _ r h; exact (List.cons.inj h).2.symm
  · intro u hu ih r h
    exfalso
    obtain ⟨c, r', e, _, _⟩ := dec_head (u / 10)
    rw [e] at h
    have hc := (List.cons.inj h).1
    subst hc
    have h0 := ih r' e
    subst h0
    have hv := dec_val (u / 10)
    rw [e] at hv
    have : dval [48] = 0 := rfl
    omega
theorem numX_itoa (n : Int) (h0 : 0 ≤ n) (h1 : n ≤ 1099511627776) : ∃ m : Nat, numX (Lib.itoa n) = some m ∧ (m : Int) = n := by
  obtain ⟨u, rfl⟩ := Int.eq_ofNat_of_zero_le h0
  rw [Lib.itoa_nonneg]
  refine ⟨u, ?_, rfl⟩
  rw [numX_yes _ ⟨?_, ?_, ?_⟩ (dec_dig u), dec_val]
  · have := dec_ne u
    cases hd : Lib.decDigits u with
    | nil => exact absurd hd this
    | cons c r => simp
  · exact dec_short u 15 (by omega) (by omega)
  · rintro ⟨h2, h3⟩
    cases hd : Lib.decDigits u with
    | nil => rw [hd] at h3; cases h3
    | cons c r =>
      rw [hd] at h2 h3
      obtain rfl : c = 48 := Option.some.inj h3
      rw [dec_lead u r hd] at h2
      simp at h2
set_option maxHeartbeats 3200000 in
set_option maxRecDepth 100000 in
theorem rnum_any (s : ByteArray) (w : World) (hs : s.size ≤ 16384) : Calls Tryz.prog 45 #[.string s] w (NumPost (numX s.data.toList) w) := by
  have hln := len_byte s
  by_cases hz : s.size = 0
  · have q0 : ((s.size : Int) == 0) = true := by rw [hz]; rfl
    have HV := Lib.hid (numX_no s.data.toList (by omega))
    clear hz hln
    go_enter Tryz.func45, Tryz.ntmps45
    go_wp2_with fail
    go_ret2
    rw [HV.out]; exact ⟨rfl, rfl⟩
  have q0 : ((s.size : Int) == 0) = false := by rw [beq_eq_false_iff_ne]; omega
  by_cases h15 : 15 < s.size
  · have HV := Lib.hid (numX_no s.data.toList (by omega))
    have q1 : (15 : Int) < (s.size : Int) := by omega
    clear hz hln
    go_enter Tryz.func45, Tryz.ntmps45
    go_wp2_with fail
    go_ret2
    rw [HV.out]; exact ⟨rfl, rfl⟩
  have q1 : (s.size : Int) ≤ 15 := by omega
  have h0 : 0 < s.size := by omega
  have hd0 := drop_byte s 0 h0
  rw [List.drop_zero] at hd0
  by_cases hl : 1 < s.size ∧ (s[0].toNat : Int) = 48
  · have HV := Lib.hid (numX_no s.data.toList (by
      rintro ⟨_, _, h3⟩
      refine h3 ⟨by omega, ?_⟩
      have h4 : s[0] = 48 := UInt8.toNat_inj.1 (by show s[0].toNat = 48; omega)
      rw [hd0, h4]; rfl))
    have q2 : (1 : Int) < (s.size : Int) := by omega
    have q3 : ((s[0].toNat : Int) == 48) = true := by rw [hl.2]; rfl
    clear hz hln hd0 hl h15
    go_enter Tryz.func45, Tryz.ntmps45
    go_wp2_with fail
    go_ret2
    rw [HV.out]; exact ⟨rfl, rfl⟩
  have HC := Lib.hid (show 1 ≤ s.data.toList.length ∧ s.data.toList.length ≤ 15 ∧ ¬ (1 < s.data.toList.length ∧ s.data.toList.head? = some 48) from ⟨by omega, by omega, fun h => by
    obtain ⟨h2, h3⟩ := h
    rw [hd0] at h3
    refine hl ⟨by omega, ?_⟩
    have h4 : s[0] = 48 := Option.some.inj h3
    rw [h4]; rfl⟩)
  have hlq : (s.size : Int) ≤ 1 ∨ ((1 : Int) < (s.size : Int) ∧ ((s[0].toNat : Int) == 48) = false) := by
    by_cases h2 : 1 < s.size
    · right; exact ⟨by omega, by rw [beq_eq_false_iff_ne]; exact fun h => hl ⟨h2, h⟩⟩
    · left; omega
  clear hl hd0 hz h15
  have main : ∀ (Q : Prop), (((s.size : Int) ≤ 1 → Q) ∧ ((1 : Int) < (s.size : Int) → ((s[0].toNat : Int) == 48) = false → Q)) → Q := fun Q h => by
    rcases hlq with h2 | h2
    · exact h.1 h2
    · exact h.2 h2.1 h2.2
  clear hlq
  refine main _ ⟨fun q2 => ?_, fun q2 q3 => ?_⟩ <;> clear main
  all_goals
    go_enter Tryz.func45, Tryz.ntmps45
    go_wp2_with fail
    go_loopg [4, 5] (s.size) (fun g nv iv wr => ∃ (j n : Nat), 0 + j ≤ s.size ∧ s.size ≤ j + g ∧ nv = .int .i64 n ∧ iv = .int .i64 (j : Int) ∧ DSt s.data.toList 0 j n ∧ w = wr)
    case atStart => exact ⟨0, 0, by omega, by omega, rfl, rfl, DSt.start _ _, rfl⟩
    case round =>
      obtain ⟨j, n, hk0, hk, rfl, rfl, hD, rfl⟩ := hrel
      have HK := Lib.hid hk
      have HD := Lib.hid hD
      clear hk hD
      by_cases hlt : j < s.size
      · have hlt' : 0 + j < s.data.toList.length := by rw [len_byte]; omega
        have HE := Lib.hid (show s.data.toList[0 + j]'hlt' = s[j] by
          have h5 : s.data.toList[j]'(by omega) = s[j] := rfl
          rw [← h5]; congr 1; omega)
        have HM := Lib.hid (mem_byte s j hlt)
        have HOn := Lib.hid (show 48 ≤ (s[j].toNat : Int) → (s[j].toNat : Int) ≤ 57 → DSt s.data.toList 0 (j + 1) (10 * n + (s[j].toNat - 48)) by rw [← HE.out]; exact fun h1 h2 => HD.out.on hlt' h1 h2)
        have hc8 : (s[j].toNat : Int) < 256 := by have := s[j].toNat_lt; omega
        clear hlt' HE
        by_cases h1 : (s[j].toNat : Int) < 48
        · have HV := Lib.hid (numX_bad s.data.toList _ HM.out (dig_no _ (.inl h1)))
          go_wp2_with fail
          go_ret2
          rw [HV.out]; exact ⟨rfl, rfl⟩
        have d1 : decide ((s[j].toNat : Int) < 48) = false := by simpa using h1
        by_cases h2 : 57 < (s[j].toNat : Int)
        · have HV := Lib.hid (numX_bad s.data.toList _ HM.out (dig_no _ (.inr h2)))
          go_wp2_with fail
          go_ret2
          rw [HV.out]; exact ⟨rfl, rfl⟩
        have d2 : decide (57 < (s[j].toNat : Int)) = false := by simpa using h2
        have g1 : 48 ≤ (s[j].toNat : Int) := by omega
        have g2 : (s[j].toNat : Int) ≤ 57 := by omega
        have g3 : n ≤ 100000000000000000 := Nat.le_trans (Nat.le_of_lt HD.out.2.2) (pow_18 j (by omega))
        have g3i : (n : Int) ≤ 100000000000000000 := by omega
        clear h1 h2
        go_wp2_with fail
        go_roundg (gk - 1)
        case measure => have := HK.out; omega
        case rel => exact ⟨j + 1, 10 * n + (s[j].toNat - 48), by omega, by have := HK.out; omega, by congr 1; omega, by go_num, HOn.out g1 g2, rfl⟩
      · have HV := Lib.hid (show numX s.data.toList = some n by
          have h6 := HD.out
          have h7 : j = s.data.toList.length - 0 := by rw [len_byte]; omega
          rw [h7] at h6
          have h8 := h6.fin
          rw [List.drop_zero] at h8
          rw [numX_yes _ HC.out, h8]
          intro c hc
          refine h6.1 c ?_
          rw [List.drop_zero, Nat.sub_zero, List.take_length]; exact hc)
        go_wp2_with fail
        go_ret2
        rw [HV.out]; exact ⟨rfl, rfl⟩
end
end Go.Proofs.YtbbdgncjpbfooaaGreatDoor
