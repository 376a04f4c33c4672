/- name.Words: what a call returns. -/
import Derived.Test.YtbbdgncjpbfooaaGreatDoorEc
import Derived.Test.YtbbdgncjpbfooaaGreatDoorKj
import Derived.Test.YtbbdgncjpbfooaaGreatDoorNc
import Derived.Lib.QuietBelow
namespace Go.Proofs.YtbbdgncjpbfooaaGreatDoor
open Go.RowKit

/-- a text as a cell -/
def strV (t : List UInt8) : Value := .string ⟨t.toArray⟩
theorem own_stays {w w' : World} {b : Nat} {e : TypeId} {k : Nat} {v : Value} {n : Nat} {xs : List Value} (h : w.ownsRow b e k v n xs) (hb : Below w.heap.size w w') : w'.ownsRow b e k v n xs := by
  refine ⟨h.1, ?_⟩
  rcases h.2 with hn | ⟨g, cap, cur, rfl, hbb, hg, rest⟩
  · exact .inl hn
  · refine .inr ⟨g, cap, cur, rfl, hbb, ?_, rest⟩
    have hlt : g < w.heap.size := by
      rcases Nat.lt_or_ge g w.heap.size with h2 | h2
      · exact h2
      · rw [Array.getElem?_eq_none h2] at hg; cases hg
    rw [hb.block g hlt]; exact hg
/-- while a line is read: the reader, the words so far -/
def WSt (w wr : World) (v : Value) (s : ByteArray) (i : Nat) (out : List (List UInt8)) : Prop :=
  NR wr w.heap.size s i ∧ wr.ownsRow (w.heap.size + 1) 9 1 v out.length (out.map strV) ∧ Below w.heap.size w wr
theorem WSt.nr {w wr : World} {v : Value} {s : ByteArray} {i : Nat} {out : List (List UInt8)} (h : WSt w wr v s i out) : NR wr w.heap.size s i := h.1
theorem WSt.own {w wr : World} {v : Value} {s : ByteArray} {i : Nat} {out : List (List UInt8)} (h : WSt w wr v s i out) : wr.ownsRow (w.heap.size + 1) 9 1 v out.length (out.map strV) := h.2.1
theorem WSt.bel {w wr : World} {v : Value} {s : ByteArray} {i : Nat} {out : List (List UInt8)} (h : WSt w wr v s i out) : Below w.heap.size w wr := h.2.2
theorem WSt.size {w wr : World} {v : Value} {s : ByteArray} {i : Nat} {out : List (List UInt8)} (h : WSt w wr v s i out) : w.heap.size + 1 ≤ wr.heap.size := h.1.lt
theorem WSt.slice {w wr : World} {v : Value} {s : ByteArray} {i : Nat} {out : List (List UInt8)} (h : WSt w wr v s i out) : ∃ A cap, v = .slice A out.length cap := by
  rcases h.own.2 with ⟨rfl, h0⟩ | ⟨g, cap, cur, rfl, _⟩
  · exact ⟨none, 0, by rw [h0]⟩
  · exact ⟨_, cap, rfl⟩
theorem WSt.start (w : World) (s : ByteArray) : WSt w (w.alloc (.cells #[.string s, .int .i64 0] 100)) (.slice none 0 0) s 0 [] :=
  ⟨heap_alloc_new w _, World.ownsRow_nil _ _ _ _, (Below.refl _ _).alloc (Nat.le_refl _) _⟩
theorem WSt.step {w wr w' : World} {v : Value} {s : ByteArray} {i j : Nat} {out : List (List UInt8)} (h : WSt w wr v s i out) (hN : NR w' w.heap.size s j) (hg : wr.grownBy w' (some w.heap.size)) : WSt w w' v s j out := by
  refine ⟨hN, h.own.kept hg ?_, h.bel.grown hg h.bel.size (fun k hk => by cases hk; exact Nat.le_refl _)⟩
  cases hv : v.ownBlock with
  | none => exact .inl rfl
  | some b =>
    refine .inr fun he => ?_
    have := (h.own.lt b hv).1
    have := Option.some.inj he
    omega
theorem WSt.drewN {w wr : World} {v : Value} {s : ByteArray} {i : Nat} {out : List (List UInt8)} (h : WSt w wr v s i out) (n : Nat) : WSt w (wr.drewN n) v s i out :=
  h.step h.nr (grown_drewN (grown_refl _ _) n)
theorem WSt.set {w wr : World} {v : Value} {s : ByteArray} {i : Nat} {out : List (List UInt8)} (h : WSt w wr v s i out) : WSt w (wr.setCell ⟨w.heap.size, 1, none⟩ (.int .i64 ((i : Int) + 1))) v s (i + 1) out :=
  h.step (h.nr.set (i + 1)) (Lib.grownBy_setB (grown_refl wr (some w.heap.size)) 1 _)
theorem WSt.push {w wr w' : World} {v v' : Value} {s : ByteArray} {i : Nat} {out : List (List UInt8)} {t : List UInt8} {o : Obj} (h : WSt w wr v s i out) (ho : w'.ownsRow (w.heap.size + 1) 9 1 v' (out.length + 1) (out.map strV ++ [strV t])) (hg : (wr.alloc o).grownBy w' v.ownBlock) : WSt w w' v' s i (out ++ [t]) := by
  have hsz := h.size
  refine ⟨?_, by rw [List.length_append, List.map_append]; exact ho, (h.bel.alloc (by omega) o).grown hg (by simp; omega) (fun k hk => by have := (h.own.lt k hk).1; omega)⟩
  unfold NR
  rw [hg.block w.heap.size (by simp; omega) (fun e => by have := (h.own.lt _ e.symm).1; omega), Below.heap_alloc wr o _ (by omega)]
  exact h.1
theorem strInfo : (Tryz.prog.info? 9).map (fun i => (i.zero, i.size, i.bytes)) = some (some (.string ⟨#[]⟩), 1, 16) := by kernel_rfl
/-- what Words returns -/
def WPost (R : Except Nat (List (List UInt8))) (w : World) (e : Ending) (w' : World) : Prop :=
  match R with
  | .ok L => ∃ v, e = .returned (.tuple #[v, .int .i64 0]) ∧ w'.ownsRow w.heap.size 9 1 v L.length (L.map strV) ∧ Below w.heap.size w w'
  | .error k => e = .returned (.tuple #[.slice none 0 0, .int .i64 (k : Int)]) ∧ Below w.heap.size w w'
theorem WPost.err {R : Except Nat (List (List UInt8))} {w w' : World} {e : Ending} {k : Nat} (hR : R = .error k) (he : e = .returned (.tuple #[.slice none 0 0, .int .i64 (k : Int)])) (hb : Below w.heap.size w w') : WPost R w e w' := by subst hR; exact ⟨he, hb⟩
theorem wown_base {w : World} {b b' : Nat} {e : TypeId} {k : Nat} {v : Value} {n : Nat} {xs : List Value} (h : w.ownsRow b e k v n xs) (hb : b' ≤ b) : w.ownsRow b' e k v n xs := by
  refine ⟨h.1, ?_⟩
  rcases h.2 with hn | ⟨g, cap, cur, rfl, hbb, rest⟩
  · exact .inl hn
  · exact .inr ⟨g, cap, cur, rfl, by omega, rest⟩
theorem WPost.ok {R : Except Nat (List (List UInt8))} {w w' : World} {v : Value} {s : ByteArray} {i : Nat} {out : List (List UInt8)} (hR : R = .ok out) (h : WSt w w' v s i out) : WPost R w (.returned (.tuple #[v, .int .i64 0])) w' := by
  subst hR
  exact ⟨v, rfl, wown_base h.own (by omega), h.bel⟩
set_option maxHeartbeats 400000 in
theorem more_q (b : Nat) (s : ByteArray) (i : Nat) (w : World) (h : NR w b s i) (r : Bool) (hr : decide (i < s.size) = r) :
    Calls Tryz.prog 72 #[.pointer (some ⟨b, 0, none⟩)] w fun e w' => e = .returned (.bool r) ∧ ∃ n, w' = w.drewN n := by
  obtain ⟨c0, c1, f0, f1⟩ := h.cells
  go_enter Tryz.func72, Tryz.ntmps72
  go_wp2_with fail
  go_quiet (fail)
  go_wp2_with fail
  go_ret
  exact ⟨rfl, _, rfl⟩
theorem more_d (b : Nat) (s : ByteArray) (i : Nat) (w : World) (m : Nat) (h : NR w b s i) (r : Bool) (hr : decide (i < s.size) = r) :
    Calls Tryz.prog 72 #[.pointer (some ⟨b, 0, none⟩)] (w.drewN m) fun e w' => e = .returned (.bool r) ∧ ∃ n, w' = (w.drewN m).drewN n := more_q b s i (w.drewN m) h r hr
theorem bytes_at (s : ByteArray) (i k : Nat) (h : i + k < s.size) (hb : ∀ x ∈ (s.data.toList.drop i).take k, isBw x = true ∧ x.toNat ≠ 34) (h1 : (s[i + k].toNat : Int) ≠ 32) (h2 : (s[i + k].toNat : Int) ≠ 34) :
    ∀ x ∈ (s.data.toList.drop i).take (k + 1), isBw x = true ∧ x.toNat ≠ 34 := by
  intro x hx
  have hd := drop_byte s (i + k) h
  rw [← List.drop_drop] at hd
  rw [List.take_add, hd] at hx
  rcases List.mem_append.1 hx with h3 | h3
  · exact hb x h3
  · simp at h3
    subst h3
    refine ⟨?_, by omega⟩
    unfold isBw; simp; omega
theorem bytes_at2 (s : ByteArray) (i j : Nat) (hij : i ≤ j) (h : j < s.size) (hb : ∀ x ∈ (s.data.toList.drop i).take (j - i), isBw x = true ∧ x.toNat ≠ 34) (h1 : (s[j].toNat : Int) ≠ 32) (h2 : (s[j].toNat : Int) ≠ 34) :
    ∀ x ∈ (s.data.toList.drop i).take (j + 1 - i), isBw x = true ∧ x.toNat ≠ 34 := by
  obtain ⟨k, rfl⟩ : ∃ k, j = i + k := ⟨j - i, by omega⟩
  rw [show i + k + 1 - i = k + 1 by omega]
  rw [show i + k - i = k by omega] at hb
  exact bytes_at s i k h hb h1 h2
theorem bare_end (l : List UInt8) (k : Nat) (hb : ∀ x ∈ l.take k, isBw x = true ∧ x.toNat ≠ 34) (he : l.drop k = [] ∨ ∃ c r, l.drop k = c :: r ∧ (c.toNat : Int) = 32) :
    l.takeWhile isBw = l.take k ∧ (l.take k).any (fun x => decide (x.toNat = 34)) = false := by
  refine ⟨?_, ?_⟩
  · have hall : (l.take k).all isBw = true := List.all_eq_true.2 fun x hx => (hb x hx).1
    have hsp : l = l.take k ++ l.drop k := (List.take_append_drop k l).symm
    have key : (l.take k ++ l.drop k).takeWhile isBw = l.take k := by
      generalize l.take k = a at *
      generalize l.drop k = d at *
      clear hb hsp
      induction a with
      | nil =>
        rcases he with rfl | ⟨c, r, rfl, hc⟩
        · rfl
        · have : isBw c = false := by unfold isBw; simp; omega
          simp [this]
      | cons c a ih =>
        simp only [List.all_cons, Bool.and_eq_true] at hall
        rw [List.cons_append, List.takeWhile_cons, if_pos hall.1, ih hall.2]
    rw [← hsp] at key; exact key
  · rw [List.any_eq_false]
    intro x hx
    simp [(hb x hx).2]
theorem bare_bad (l : List UInt8) (k : Nat) (c : UInt8) (r : List UInt8) (hb : ∀ x ∈ l.take k, isBw x = true ∧ x.toNat ≠ 34) (hc : l.drop k = c :: r) (h : (c.toNat : Int) = 34) : (l.takeWhile isBw).any (fun x => decide (x.toNat = 34)) = true := by
  have hsp : l = l.take k ++ c :: r := by rw [← hc]; exact (List.take_append_drop k l).symm
  rw [List.any_eq_true]
  refine ⟨c, ?_, by simp; omega⟩
  rw [hsp]
  generalize l.take k = a at *
  clear hsp hc
  induction a with
  | nil =>
    have : isBw c = true := by unfold isBw; simp; omega
    simp [this]
  | cons d a ih =>
    have hd := (hb d (by simp)).1
    rw [List.cons_append, List.takeWhile_cons, if_pos hd]
    exact List.mem_cons_of_mem _ (ih fun x hx => hb x (by simp [hx]))
set_option maxHeartbeats 6400000 in
set_option maxRecDepth 100000 in
theorem words_walk (s : ByteArray) (w : World) (h : s.size ≤ 16384) (hp : s.data.toList.all isPr = true) : Calls Tryz.prog 39 #[.string s] w (WPost (wordsX (wordsA (s.data.toList.length + 1) s.data.toList [])) w) := by
  have q0 : (s.size : Int) ≤ 16384 := by omega
  have HP := Lib.hid (nprintable_any s w (by omega))
  rw [hp] at HP
  clear hp
  generalize hR : wordsA (s.data.toList.length + 1) s.data.toList [] = R
  have HR := Lib.hid hR; clear hR
  have H0 := Lib.hid (WSt.start w s)
  have hl0 := len_byte s
  rw [hl0] at HR
  clear hl0
  obtain ⟨i0, hi, hz0, hz1, hz2⟩ := info_parts strInfo
  have HI := Lib.hid (And.intro hi (And.intro hz0 (And.intro hz1 hz2)))
  clear hi hz0 hz1 hz2
  go_enter Tryz.func39, Tryz.ntmps39
  go_wp2_with fail
  ((with_reducible refine HP.out.mono ?_); rintro e w1 ⟨rfl, rfl⟩)
  clear HP
  go_wp2_with fail
  go_loopg [4] (s.size) (fun g vx wr => ∃ i out v, i ≤ s.size ∧ s.size ≤ i + g ∧ out.length ≤ i ∧ wordsA (g + 1) (s.data.toList.drop i) out = R ∧ v = vx ∧ WSt w wr v s i out)
  case atStart => exact ⟨0, [], _, by omega, by omega, by simp, HR.out, rfl, H0.out⟩
  case round =>
    obtain ⟨i, out, v, hi1, hi2, hol, hI, rfl, hS⟩ := hrel
    have HI2 := Lib.hid hI
    have HS := Lib.hid hS
    clear hI hS H0 HR
    by_cases hlt : i < s.size
    · have HC := Lib.hid (drop_byte s i hlt)
      obtain ⟨f, rfl⟩ : ∃ f, gk = f + 1 := ⟨gk - 1, by omega⟩
      rw [HC.out] at HI2
      have hlt2 : (i : Int) < (s.size : Int) := by omega
      by_cases h32 : (s[i].toNat : Int) = 32
      · have q1 : ((s[i].toNat : Int) == 32) = true := by rw [h32]; rfl
        have HV := Lib.hid (show wordsA (f + 1) (s.data.toList.drop (i + 1)) out = R by rw [← HI2.out, wordsA_blank _ _ _ _ h32])
        clear h32
        go_wp2_with fail
        ((with_reducible refine (more_yes w.heap.size s i _ HS.out.nr hlt).mono ?_); rintro e wn ⟨rfl, hN2, hg2⟩)
        replace HS := Lib.hid (HS.out.step hN2 hg2)
        clear hN2 hg2
        go_wp2_with fail
        obtain ⟨c0, c1, f0, f1⟩ := HS.out.nr.cells
        go_quiet (fail)
        replace HS := Lib.hid (HS.out.drewN nq)
        clear c0 c1 f0 f1
        generalize World.drewN _ nq = wn at HS ⊢
        obtain ⟨c0, c1, f0, f1⟩ := HS.out.nr.cells
        go_wp2_with fail
        go_roundg (f)
        case measure => omega
        case rel => exact ⟨i + 1, out, v, by omega, by omega, by omega, HV.out, rfl, HS.out.set⟩
      · have q1 : ((s[i].toNat : Int) == 32) = false := by simpa using h32
        have H32 := Lib.hid h32; clear h32
        by_cases h34 : (s[i].toNat : Int) = 34
        · have q2 : ((s[i].toNat : Int) == 34) = true := by rw [h34]; rfl
          have H34 := Lib.hid h34; clear h34
          go_wp2_with fail
          ((with_reducible refine (more_yes w.heap.size s i _ HS.out.nr hlt).mono ?_); rintro e wn ⟨rfl, hN2, hg2⟩)
          replace HS := Lib.hid (HS.out.step hN2 hg2)
          clear hN2 hg2
          go_wp2_with fail
          obtain ⟨c0, c1, f0, f1⟩ := HS.out.nr.cells
          go_quiet (fail)
          replace HS := Lib.hid (HS.out.drewN nq)
          clear c0 c1 f0 f1
          generalize World.drewN _ nq = wn at HS ⊢
          go_wp2_with fail
          obtain ⟨c0, c1, f0, f1⟩ := HS.out.nr.cells
          go_quiet (fail)
          replace HS := Lib.hid (HS.out.drewN nq)
          clear c0 c1 f0 f1
          generalize World.drewN _ nq = wn at HS ⊢
          obtain ⟨c0, c1, f0, f1⟩ := HS.out.nr.cells
          go_wp2_with fail
          replace HS := Lib.hid HS.out.set
          clear c0 c1 f0 f1
          generalize World.setCell _ _ _ = wn at HS ⊢
          ((with_reducible refine (nliteral_any w.heap.size s (i + 1) _ HS.out.nr (by omega) (by omega)).mono ?_); rintro e wn2 hL)
          cases hl : litF (s.data.toList.drop (i + 1)) with
          | error k =>
            rw [hl] at hL
            obtain ⟨⟨rfl, j, hN2⟩, hg2⟩ := hL
            have hk : ((k : Int) != 0) = true := by have := litF_code _ _ (Nat.le_refl _) _ hl; simp; omega
            have HV := Lib.hid (show wordsX R = .error k by rw [← HI2.out, wordsA_lit _ _ _ _ H34.out k hl]; rfl)
            replace HS := Lib.hid (HS.out.step hN2 hg2)
            clear hl hN2 hg2
            go_wp2_with fail
            go_ret2
            exact WPost.err HV.out rfl HS.out.bel
          | ok x =>
            obtain ⟨t, n⟩ := x
            rw [hl] at hL
            obtain ⟨⟨rfl, hN2⟩, hg2⟩ := hL
            have hln := litF_len _ _ (Nat.le_refl _) _ _ hl
            rw [List.length_drop, len_byte] at hln
            have HL := Lib.hid hl
            replace HS := Lib.hid (HS.out.step hN2 hg2)
            clear hl hN2 hg2
            obtain ⟨tb, htb⟩ : ∃ y : ByteArray, y = ⟨t.toArray⟩ := ⟨_, rfl⟩
            have HTB := Lib.hid (show strV t = .string tb by rw [htb]; rfl)
            rw [← htb]
            clear htb
            obtain ⟨j, hj⟩ : ∃ j, j = i + 1 + n := ⟨_, rfl⟩
            rw [← hj] at HS
            have HJ := Lib.hid hj
            have hjs : j ≤ s.size ∧ i + 2 ≤ j ∧ out.length + 1 ≤ j := by omega
            clear hj
            by_cases hend : j < s.size
            · have HC2 := Lib.hid (drop_byte s (j) hend)
              have d1 : decide (j < s.size) = true := by simp; omega
              have HD := Lib.hid (show (s.data.toList.drop (i + 1)).drop n = s[j] :: s.data.toList.drop (j + 1) by rw [List.drop_drop, ← HJ.out]; exact HC2.out)
              by_cases h3 : (s[j].toNat : Int) = 32
              · have q3 : ((s[j].toNat : Int) != 32) = false := by rw [h3]; rfl
                have HV := Lib.hid (show wordsA (f + 1) (s.data.toList.drop (j)) (out ++ [t]) = R by rw [← HI2.out, wordsA_on _ _ _ _ H34.out t n HL.out _ _ HD.out h3, List.drop_drop, ← HJ.out])
                clear h3
                go_wp2_with fail
                obtain ⟨c0, c1, f0, f1⟩ := HS.out.nr.cells
                have hlt3 : (j : Int) < (s.size : Int) := by omega
                go_quiet ((exact Calls.quiet_of (more_d w.heap.size s (j) _ _ HS.out.nr _ d1)))
                replace HS := Lib.hid (HS.out.drewN nq)
                clear c0 c1 f0 f1
                generalize World.drewN _ nq = wn at HS ⊢
                go_wp2_with (at_builtin; refine wpList_append_own _ rfl _ _ 61 rfl (w.heap.size + 1) 9 i0 (.string ⟨#[]⟩) 1 16 Tryz.underlying61 HI.out.1 HI.out.2.1 HI.out.2.2.1 HI.out.2.2.2 rfl (by decide) v _ _ rfl (HS.out.own.alloc _) ⟨wn.heap.size, 0, none⟩ 1 1 [.string tb] rfl rfl ?c1 ?c2 ?c3 ?c4 ?c5 ?_)
                case c1 => intro j u hj; match j, hj with | 0, hj => simp at hj; subst hj; simp [Addr.add] | j + 1, hj => simp at hj
                case c2 => intro u hu; simp at hu; subst hu; rfl
                case c3 => unfold maxLen; omega
                case c4 => omega
                case c5 => have := HS.out.size; simp; omega
                intro v' w7 hown7 hgrow7 _
                replace HS := Lib.hid (HS.out.push (t := t) (by rw [HTB.out]; exact hown7) hgrow7)
                clear hown7 hgrow7
                go_wp2_with fail
                go_roundg (f)
                case measure => omega
                case rel => exact ⟨j, out ++ [t], v', by omega, by omega, by simp; omega, HV.out, rfl, HS.out⟩
              · have q3 : ((s[j].toNat : Int) != 32) = true := by simpa using h3
                have HV := Lib.hid (show wordsX R = .error 3 by rw [← HI2.out, wordsA_bad _ _ _ _ H34.out t n HL.out _ _ HD.out h3]; rfl)
                clear h3
                go_wp2_with fail
                obtain ⟨c0, c1, f0, f1⟩ := HS.out.nr.cells
                have hlt3 : (j : Int) < (s.size : Int) := by omega
                go_quiet ((exact Calls.quiet_of (more_d w.heap.size s (j) _ _ HS.out.nr _ d1)))
                replace HS := Lib.hid (HS.out.drewN nq)
                clear c0 c1 f0 f1
                generalize World.drewN _ nq = wn at HS ⊢
                go_wp2_with fail
                go_ret2
                exact WPost.err HV.out rfl HS.out.bel
            · have d1 : decide (j < s.size) = false := by simp; omega
              have hd : s.data.toList.drop (j) = [] := List.drop_eq_nil_of_le (by rw [len_byte]; omega)
              have HV := Lib.hid (show wordsA (f + 1) (s.data.toList.drop (j)) (out ++ [t]) = R by rw [← HI2.out, wordsA_end _ _ _ _ H34.out t n HL.out (by rw [List.drop_drop, ← HJ.out]; exact hd), List.drop_drop, ← HJ.out])
              clear hd
              go_wp2_with fail
              obtain ⟨c0, c1, f0, f1⟩ := HS.out.nr.cells
              have hlt3 : (j : Int) ≥ (s.size : Int) := by omega
              go_quiet ((exact Calls.quiet_of (more_d w.heap.size s (j) _ _ HS.out.nr _ d1)))
              replace HS := Lib.hid (HS.out.drewN nq)
              clear c0 c1 f0 f1
              generalize World.drewN _ nq = wn at HS ⊢
              go_wp2_with (at_builtin; refine wpList_append_own _ rfl _ _ 61 rfl (w.heap.size + 1) 9 i0 (.string ⟨#[]⟩) 1 16 Tryz.underlying61 HI.out.1 HI.out.2.1 HI.out.2.2.1 HI.out.2.2.2 rfl (by decide) v _ _ rfl (HS.out.own.alloc _) ⟨wn.heap.size, 0, none⟩ 1 1 [.string tb] rfl rfl ?c1 ?c2 ?c3 ?c4 ?c5 ?_)
              case c1 => intro j u hj; match j, hj with | 0, hj => simp at hj; subst hj; simp [Addr.add] | j + 1, hj => simp at hj
              case c2 => intro u hu; simp at hu; subst hu; rfl
              case c3 => unfold maxLen; omega
              case c4 => omega
              case c5 => have := HS.out.size; simp; omega
              intro v' w7 hown7 hgrow7 _
              replace HS := Lib.hid (HS.out.push (t := t) (by rw [HTB.out]; exact hown7) hgrow7)
              clear hown7 hgrow7
              go_wp2_with fail
              go_roundg (f)
              case measure => omega
              case rel => exact ⟨j, out ++ [t], v', by omega, by omega, by simp; omega, HV.out, rfl, HS.out⟩
        · have q2 : ((s[i].toNat : Int) == 34) = false := by simpa using h34
          have H34 := Lib.hid h34; clear h34
          go_wp2_with fail
          ((with_reducible refine (more_yes w.heap.size s i _ HS.out.nr hlt).mono ?_); rintro e wn ⟨rfl, hN2, hg2⟩)
          replace HS := Lib.hid (HS.out.step hN2 hg2)
          clear hN2 hg2
          go_wp2_with fail
          obtain ⟨c0, c1, f0, f1⟩ := HS.out.nr.cells
          go_quiet (fail)
          replace HS := Lib.hid (HS.out.drewN nq)
          clear c0 c1 f0 f1
          generalize World.drewN _ nq = wn at HS ⊢
          go_wp2_with fail
          obtain ⟨c0, c1, f0, f1⟩ := HS.out.nr.cells
          go_quiet (fail)
          replace HS := Lib.hid (HS.out.drewN nq)
          clear c0 c1 f0 f1
          generalize World.drewN _ nq = wn at HS ⊢
          have HB := Lib.hid (wordsA_bare (f + 1) s[i] (s.data.toList.drop (i + 1)) out H32.out H34.out)
          rw [HI2.out, ← HC.out] at HB
          have HNE := H32
          clear H34 H32
          obtain ⟨c0, c1, f0, f1⟩ := HS.out.nr.cells
          go_wp2_with fail
          clear c0 c1 f0 f1 q1 q2
          go_loopg [97] (s.size) (fun g _ wx => ∃ j, i ≤ j ∧ j ≤ s.size ∧ s.size ≤ j + g ∧ (i = j → i < s.size) ∧ (∀ x ∈ (s.data.toList.drop i).take (j - i), isBw x = true ∧ x.toNat ≠ 34) ∧ WSt w wx v s j out)
          case atStart => exact ⟨i, by omega, by omega, by omega, fun _ => hlt, by simp, HS.out⟩
          case round =>
            obtain ⟨j, hj1, hj2, hj3, _, hb, hS⟩ := hrel
            have HBy := Lib.hid hb
            replace HS := Lib.hid hS
            clear hb hS
            have HDD := Lib.hid (show (s.data.toList.drop i).drop (j - i) = s.data.toList.drop j by rw [List.drop_drop, show i + (j - i) = j by omega])
            have HTX := Lib.hid (show (s.extract i j).data.toList = (s.data.toList.drop i).take (j - i) from Lib.extract_data s i j)
            have hij : (i : Int) ≤ (j : Int) := by omega
            have hjs : (j : Int) ≤ (s.size : Int) := by omega
            have HVX := Lib.hid (fun (he : (s.data.toList.drop i).drop (j - i) = [] ∨ ∃ c r, (s.data.toList.drop i).drop (j - i) = c :: r ∧ (c.toNat : Int) = 32) => (show wordsA (f + 1) (s.data.toList.drop j) (out ++ [(s.data.toList.drop i).take (j - i)]) = R by
              obtain ⟨h1, h2⟩ := bare_end (s.data.toList.drop i) (j - i) HBy.out he
              rw [HB.out, h1, h2, List.length_take, List.length_drop, len_byte, Nat.min_eq_left (by omega), HDD.out]; rfl))
            have HTB := Lib.hid (show strV ((s.data.toList.drop i).take (j - i)) = .string (s.extract i j) by unfold strV; congr 1; exact bytes_ext HTX.out.symm)
            by_cases hl4 : j < s.size
            · have hl5 : (j : Int) < (s.size : Int) := by omega
              have d1 : decide (j < s.size) = true := by simp; omega
              have HC2 := Lib.hid (drop_byte s j hl4)
              by_cases h3 : (s[j].toNat : Int) = 32
              · have q3 : ((s[j].toNat : Int) != 32) = false := by rw [h3]; rfl
                have HV := Lib.hid (HVX.out (.inr ⟨_, _, by rw [HDD.out]; exact HC2.out, h3⟩))
                have hne : i < j := by
                  rcases Nat.lt_or_ge i j with h6 | h6
                  · exact h6
                  · obtain rfl : i = j := by omega
                    exact absurd h3 HNE.out
                clear h3
                go_wp2_with fail
                obtain ⟨c0, c1, f0, f1⟩ := HS.out.nr.cells
                have hlt3 : (j : Int) < (s.size : Int) := by omega
                go_quiet ((exact Calls.quiet_of (more_d w.heap.size s (j) _ _ HS.out.nr _ d1)))
                replace HS := Lib.hid (HS.out.drewN nq)
                clear c0 c1 f0 f1
                generalize World.drewN _ nq = wn at HS ⊢
                obtain ⟨c0, c1, f0, f1⟩ := HS.out.nr.cells
                go_wp2_with (at_builtin; refine wpList_append_own _ rfl _ _ 61 rfl (w.heap.size + 1) 9 i0 (.string ⟨#[]⟩) 1 16 Tryz.underlying61 HI.out.1 HI.out.2.1 HI.out.2.2.1 HI.out.2.2.2 rfl (by decide) v _ _ rfl (HS.out.own.alloc _) ⟨wn.heap.size, 0, none⟩ 1 1 [.string (s.extract i j)] rfl rfl ?c1 ?c2 ?c3 ?c4 ?c5 ?_)
                case c1 => intro j u hj; match j, hj with | 0, hj => simp at hj; subst hj; simp [Addr.add] | j + 1, hj => simp at hj
                case c2 => intro u hu; simp at hu; subst hu; rfl
                case c3 => unfold maxLen; omega
                case c4 => omega
                case c5 => have := HS.out.size; simp; omega
                intro v' w7 hown7 hgrow7 _
                replace HS := Lib.hid (HS.out.push  (by rw [HTB.out]; exact hown7) hgrow7)
                clear hown7 hgrow7
                go_wp2_with fail
                go_roundg (f)
                case measure => omega
                case rel => exact ⟨j, out ++ [(s.data.toList.drop i).take (j - i)], v', by omega, by omega, by simp; omega, HV.out, rfl, HS.out⟩
              · have q3 : ((s[j].toNat : Int) != 32) = true := by simpa using h3
                go_wp2_with fail
                obtain ⟨c0, c1, f0, f1⟩ := HS.out.nr.cells
                have hlt3 : (j : Int) < (s.size : Int) := by omega
                go_quiet ((exact Calls.quiet_of (more_d w.heap.size s (j) _ _ HS.out.nr _ d1)))
                replace HS := Lib.hid (HS.out.drewN nq)
                clear c0 c1 f0 f1
                generalize World.drewN _ nq = wn at HS ⊢
                go_wp2_with fail
                ((with_reducible refine (rnext_any w.heap.size s j _ HS.out.nr hl4 (by omega)).mono ?_); rintro e wn3 ⟨rfl, hN2, hg2⟩)
                replace HS := Lib.hid (HS.out.step hN2 hg2)
                clear hN2 hg2
                by_cases h4 : (s[j].toNat : Int) = 34
                · have q4 : ((s[j].toNat : Int) == 34) = true := by rw [h4]; rfl
                  have HV := Lib.hid (show wordsX R = .error 3 by rw [HB.out, bare_bad _ (j - i) _ _ HBy.out (by rw [HDD.out]; exact HC2.out) h4]; rfl)
                  clear h4 h3
                  go_wp2_with fail
                  go_ret2
                  exact WPost.err HV.out rfl HS.out.bel
                · have q4 : ((s[j].toNat : Int) == 34) = false := by simpa using h4
                  have HN := Lib.hid (show ∀ x ∈ (s.data.toList.drop i).take (j + 1 - i), isBw x = true ∧ x.toNat ≠ 34 by
                    have := bytes_at2 s i j hj1 hl4 HBy.out h3 h4
                    exact this)
                  clear h4 h3
                  go_wp2_with fail
                  go_roundg (gk - 1)
                  case measure => omega
                  case rel => exact ⟨j + 1, by omega, by omega, by omega, fun _ => hlt, HN.out, HS.out⟩
            · have d1 : decide (j < s.size) = false := by simp; omega
              have HV := Lib.hid (HVX.out (.inl (by rw [HDD.out]; exact List.drop_eq_nil_of_le (by rw [len_byte]; omega))))
              have hne : i < j := by omega
              go_wp2_with fail
              obtain ⟨c0, c1, f0, f1⟩ := HS.out.nr.cells
              have hlt3 : (j : Int) ≥ (s.size : Int) := by omega
              go_quiet ((exact Calls.quiet_of (more_d w.heap.size s (j) _ _ HS.out.nr _ d1)))
              replace HS := Lib.hid (HS.out.drewN nq)
              clear c0 c1 f0 f1
              generalize World.drewN _ nq = wn at HS ⊢
              obtain ⟨c0, c1, f0, f1⟩ := HS.out.nr.cells
              go_wp2_with (at_builtin; refine wpList_append_own _ rfl _ _ 61 rfl (w.heap.size + 1) 9 i0 (.string ⟨#[]⟩) 1 16 Tryz.underlying61 HI.out.1 HI.out.2.1 HI.out.2.2.1 HI.out.2.2.2 rfl (by decide) v _ _ rfl (HS.out.own.alloc _) ⟨wn.heap.size, 0, none⟩ 1 1 [.string (s.extract i j)] rfl rfl ?c1 ?c2 ?c3 ?c4 ?c5 ?_)
              case c1 => intro j u hj; match j, hj with | 0, hj => simp at hj; subst hj; simp [Addr.add] | j + 1, hj => simp at hj
              case c2 => intro u hu; simp at hu; subst hu; rfl
              case c3 => unfold maxLen; omega
              case c4 => omega
              case c5 => have := HS.out.size; simp; omega
              intro v' w7 hown7 hgrow7 _
              replace HS := Lib.hid (HS.out.push  (by rw [HTB.out]; exact hown7) hgrow7)
              clear hown7 hgrow7
              go_wp2_with fail
              go_roundg (f)
              case measure => omega
              case rel => exact ⟨j, out ++ [(s.data.toList.drop i).take (j - i)], v', by omega, by omega, by simp; omega, HV.out, rfl, HS.out⟩
    · obtain rfl : i = s.size := by omega
      have hd : s.data.toList.drop s.size = [] := List.drop_eq_nil_of_le (by rw [len_byte]; omega)
      have HV := Lib.hid (show R = .ok out by rw [← HI2.out, hd]; rfl)
      clear hd
      go_wp2_with fail
      ((with_reducible refine (more_no w.heap.size s s.size _ HS.out.nr (Nat.le_refl _)).mono ?_); rintro e wn ⟨rfl, hN2, hg2⟩)
      replace HS := Lib.hid (HS.out.step hN2 hg2)
      clear hN2 hg2
      obtain ⟨A, cap, hv⟩ := HS.out.slice
      subst hv
      by_cases h1000 : out.length ≤ 1000
      · have q5 : ((out.length : Nat) : Int) ≤ 1000 := by omega
        have HV2 := Lib.hid (show wordsX R = .ok out by rw [HV.out]; unfold wordsX; simp only; rw [if_neg (by omega)])
        go_wp2_with fail
        go_ret2
        exact WPost.ok HV2.out HS.out
      · have q5 : (1000 : Int) < ((out.length : Nat) : Int) := by omega
        have HV2 := Lib.hid (show wordsX R = .error 5 by rw [HV.out]; unfold wordsX; simp only; rw [if_pos (by omega)])
        go_wp2_with fail
        go_ret2
        exact WPost.err HV2.out rfl HS.out.bel
end Go.Proofs.YtbbdgncjpbfooaaGreatDoor
