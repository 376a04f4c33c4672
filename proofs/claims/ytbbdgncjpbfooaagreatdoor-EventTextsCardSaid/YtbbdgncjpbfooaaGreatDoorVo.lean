/- casebookref11.Parse: what a call returns. -/
import Derived.Test.YtbbdgncjpbfooaaGreatDoorVm
import Derived.Test.YtbbdgncjpbfooaaGreatDoorVn
namespace Go.Proofs.YtbbdgncjpbfooaaGreatDoor
open Go.RowKit

set_option maxHeartbeats 800000 in
theorem rwords_any (s : ByteArray) (w : World) (h : s.size ≤ 16384) : Calls Tryz.prog 44 #[.string s] w (WPost (words s.data.toList) w) := by
  cases hp : s.data.toList.all isPr with
  | true =>
    have e : words s.data.toList = wordsX (wordsA (s.data.toList.length + 1) s.data.toList []) := by
      unfold words; rw [if_neg (by rw [len_byte]; omega), hp]; rfl
    rw [e]; exact rwords_walk s w h hp
  | false =>
    have e : words s.data.toList = .error 3 := by
      unfold words; rw [if_neg (by rw [len_byte]; omega), hp]; rfl
    have HE := Lib.hid e
    have HP := Lib.hid (sprintable_any s w (by omega))
    rw [hp] at HP
    have q0 : (s.size : Int) ≤ 16384 := by omega
    clear hp e
    go_enter Tryz.func44, Tryz.ntmps44
    go_wp2_with fail
    ((with_reducible refine HP.out.mono ?_); rintro e w1 ⟨rfl, rfl⟩)
    go_wp2_with fail
    go_ret2
    exact WPost.err HE.out rfl (Below.refl _ _)
theorem evR_bad {s : List UInt8} (hs : s.length ≤ 16384) (h : ∀ g : Ev, g.ok = true → g.tx = s → False) : evR s = .error 3 := by
  refine evR_none hs ?_
  cases hv : evP s with
  | none => rfl
  | some g => exact (h g (evP_some s g hv).1 (evP_some s g hv).2).elim
theorem evR_good {s : List UInt8} {e : Ev} (hs : s.length ≤ 16384) (h1 : e.ok = true) (h2 : e.tx = s) : evR s = .ok e := evR_some hs (by rw [← h2]; exact evP_tx e h1)
theorem lifeB_inj (n m : Int) (h1 : 1 ≤ n) (h2 : n ≤ 6) (h3 : 1 ≤ m) (h4 : m ≤ 6) (h : lifeB n = lifeB m) : n = m := by
  rw [← lifeI_word n h1 h2, h, lifeI_word m h3 h4]
theorem ws_parts (s : List UInt8) (b0 b1 b2 b3 b4 : ByteArray) (rest : List (List UInt8)) (hw : words s = .ok (b0.data.toList :: b1.data.toList :: b2.data.toList :: b3.data.toList :: b4.data.toList :: rest)) (g : Ev) (hg : g.ok = true) (ht : g.tx = s) :
    g.c = b0 ∧ g.a = b1 ∧ g.r = b2 ∧ b3 = lifeB g.life ∧ b4.data.toList = Lib.itoa g.time ∧ g.d.map Fd.tx = rest := by
  rw [← ht, words_ev g hg] at hw
  have h := Except.ok.inj hw
  unfold Ev.ws at h
  simp only [List.cons_append, List.nil_append, List.cons.injEq] at h
  obtain ⟨h0, h1, h2, h3, h4, h5⟩ := h
  exact ⟨bytes_ext h0, bytes_ext h1, bytes_ext h2, bytes_ext h3.symm, h4.symm, h5⟩
/-- the fields that were read, if the text is one of an event -/
def RInv (s : List UInt8) (k : Nat) (d : List Fd) (o : Bool) : Prop := ∀ g : Ev, g.ok = true → g.tx = s → d = g.d.take k ∧ o = true
theorem RInv.step {s : List UInt8} {k : Nat} {d : List Fd} {o : Bool} (h : RInv s k d o) (rest : List (List UInt8)) (hr : ∀ g : Ev, g.ok = true → g.tx = s → g.d.map Fd.tx = rest) (hk : k < rest.length) (f : Fd) (b : Bool)
    (hf : ∀ g : Fd, isNameB g.nm.data.toList = true → g.v.ok = true → rest[k] = g.tx → f = g ∧ b = true) : RInv s (k + 1) (d ++ [f]) (o && b) := by
  intro g hg ht
  obtain ⟨h1, h2⟩ := h g hg ht
  have h3 := hr g hg ht
  have hlen : k < g.d.length := by rw [← h3, List.length_map] at hk; exact hk
  obtain ⟨h4, h5⟩ := ev_names g hg g.d[k] (List.getElem_mem hlen)
  obtain ⟨h6, h7⟩ := hf g.d[k] h4 h5 (by subst h3; simp)
  refine ⟨?_, by rw [h2, h7]; rfl⟩
  rw [List.take_succ_eq_append_getElem hlen, ← h1, h6]
theorem num_one (l : List UInt8) : ∃ (T : Nat) (o : Bool), (∀ w e w', NumPost (numX l) w e w' → e = .returned (.tuple #[.int .i64 (T : Int), .bool o]) ∧ w = w') ∧ ∀ t : Int, 0 ≤ t → t ≤ 1099511627776 → l = Lib.itoa t → (T : Int) = t ∧ o = true := by
  cases hn : numX l with
  | none => exact ⟨0, false, fun w e w' h => h, fun t h0 h1 h => by
      obtain ⟨m, hm, _⟩ := numX_itoa t h0 h1
      rw [← h, hn] at hm; cases hm⟩
  | some n => exact ⟨n, true, fun w e w' h => h, fun t h0 h1 h => by
      obtain ⟨m, hm, hm2⟩ := numX_itoa t h0 h1
      rw [← h, hn] at hm; cases hm; exact ⟨hm2, rfl⟩⟩
theorem cand_eq {s : List UInt8} {b0 b1 b2 b3 b4 : ByteArray} {rest : List (List UInt8)} {life T : Int} {d : List Fd} {o : Bool} {k : Nat}
    (hP : ∀ g : Ev, g.ok = true → g.tx = s → g.c = b0 ∧ g.a = b1 ∧ g.r = b2 ∧ b3 = lifeB g.life ∧ b4.data.toList = Lib.itoa g.time ∧ g.d.map Fd.tx = rest)
    (hl : ∀ n : Int, 1 ≤ n → n ≤ 6 → b3 = lifeB n → life = n) (hT : ∀ t : Int, 0 ≤ t → t ≤ 1099511627776 → b4.data.toList = Lib.itoa t → T = t) (hri : RInv s k d o) (hk : k = rest.length) :
    ∀ g : Ev, g.ok = true → g.tx = s → (⟨b0, b1, b2, life, T, d⟩ : Ev) = g ∧ o = true := by
  intro g hg ht
  obtain ⟨p0, p1, p2, p3, p4, p5⟩ := hP g hg ht
  obtain ⟨h1, h6, ht0, ht1, _⟩ := ev_head g hg
  obtain ⟨h2, h3⟩ := hri g hg ht
  have hlen : g.d.length = k := by rw [hk, ← p5, List.length_map]
  rw [List.take_of_length_le (by omega)] at h2
  refine ⟨?_, h3⟩
  rw [hl g.life h1 h6 p3, hT g.time ht0 ht1 p4, h2, ← p0, ← p1, ← p2]
theorem EB.set3 {w : World} {b : Nat} {e : Ev} {A : Option Addr} {n cap : Nat} (h : EB w b e A n cap) (x : Int) : EB (w.setCell ⟨b, 3, none⟩ (.int .i64 x)) b ⟨e.c, e.a, e.r, x, e.time, e.d⟩ A n cap := (six_set h (.int .i64 x)).2.2.2.1
theorem EB.set4 {w : World} {b : Nat} {e : Ev} {A : Option Addr} {n cap : Nat} (h : EB w b e A n cap) (x : Int) : EB (w.setCell ⟨b, 4, none⟩ (.int .i64 x)) b ⟨e.c, e.a, e.r, e.life, x, e.d⟩ A n cap := (six_set h (.int .i64 x)).2.2.2.2.1
set_option maxHeartbeats 1600000 in
theorem rparse_bad (s : ByteArray) (w : World) (h : s.size ≤ 16384) (k : Nat) (hw : words s.data.toList = .error k) : Calls Tryz.prog 12 #[.string s] w (EpPost (evR s.data.toList) w) := by
  have HR := Lib.hid (evR_none (by rw [len_byte]; exact h) (evP_err _ k hw))
  have HW := Lib.hid (fun w => rwords_any s w h)
  rw [hw] at HW
  have hk : ((k : Int) != 0) = true := by have := words_code _ _ hw; simp; omega
  have HO := Lib.hid (below_alloc w (.cells #[.string ⟨#[]⟩, .string ⟨#[]⟩, .string ⟨#[]⟩, .int .i64 0, .int .i64 0, .slice none 0 0] 24))
  have HE := Lib.hid (show EB (w.alloc (.cells #[.string ⟨#[]⟩, .string ⟨#[]⟩, .string ⟨#[]⟩, .int .i64 0, .int .i64 0, .slice none 0 0] 24)) w.heap.size ev0 none 0 0 from EB.new w ev0 none 0 0)
  have q : (s.size : Int) ≤ 16384 := by omega
  clear h hw
  go_enter Tryz.func12, Tryz.ntmps12
  go_wp2_with fail
  ((with_reducible refine (HW.out _).mono ?_); rintro e w1 ⟨rfl, hb1⟩)
  have HB := Lib.hid (below_then HO.out hb1)
  have HE1 := Lib.hid (HE.out.below hb1)
  clear hb1
  obtain ⟨c0, c1, c2, c3, c4, c5⟩ := HE1.out.cells
  obtain ⟨f0, f1, f2, f3, f4, f5⟩ := HE1.out.fr
  simp only [ev0] at c0 c1 c2 c3 c4 c5
  go_wp2_with fail
  exact bodyPost_ret (v := .tuple #[.agg #[.string ⟨#[]⟩, .string ⟨#[]⟩, .string ⟨#[]⟩, .int .i64 0, .int .i64 0, .slice none 0 0], .int .i64 3]) (by simp [results, Tryz.results12, go_sem, c0, c1, c2, c3, c4, c5]) rfl (EpPost.err HR.out rfl (bset6 HB.out (Nat.le_refl _) _ _ _ _ _ _))
set_option maxHeartbeats 1600000 in
theorem rparse_short (s : ByteArray) (w : World) (h : s.size ≤ 16384) (L : List (List UInt8)) (hw : words s.data.toList = .ok L) (h5 : L.length < 5) : Calls Tryz.prog 12 #[.string s] w (EpPost (evR s.data.toList) w) := by
  have HR := Lib.hid (evR_none (by rw [len_byte]; exact h) (evP_no _ L hw (candE_short L h5)))
  have HW := Lib.hid (fun w => rwords_any s w h)
  rw [hw] at HW
  have HO := Lib.hid (below_alloc w (.cells #[.string ⟨#[]⟩, .string ⟨#[]⟩, .string ⟨#[]⟩, .int .i64 0, .int .i64 0, .slice none 0 0] 24))
  have HE := Lib.hid (show EB (w.alloc (.cells #[.string ⟨#[]⟩, .string ⟨#[]⟩, .string ⟨#[]⟩, .int .i64 0, .int .i64 0, .slice none 0 0] 24)) w.heap.size ev0 none 0 0 from EB.new w ev0 none 0 0)
  have q : (s.size : Int) ≤ 16384 := by omega
  have q5 : (L.length : Int) < 5 := by omega
  clear h hw
  go_enter Tryz.func12, Tryz.ntmps12
  go_wp2_with fail
  ((with_reducible refine (HW.out _).mono ?_); rintro e w1 ⟨v, rfl, hown, hb1⟩)
  obtain ⟨A, cap, rfl, _⟩ := words_mem hown
  have HB := Lib.hid (below_then HO.out hb1)
  have HE1 := Lib.hid (HE.out.below hb1)
  clear hb1 hown
  obtain ⟨c0, c1, c2, c3, c4, c5⟩ := HE1.out.cells
  obtain ⟨f0, f1, f2, f3, f4, f5⟩ := HE1.out.fr
  simp only [ev0] at c0 c1 c2 c3 c4 c5
  go_wp2_with fail
  exact bodyPost_ret (v := .tuple #[.agg #[.string ⟨#[]⟩, .string ⟨#[]⟩, .string ⟨#[]⟩, .int .i64 0, .int .i64 0, .slice none 0 0], .int .i64 3]) (by simp [results, Tryz.results12, go_sem, c0, c1, c2, c3, c4, c5]) rfl (EpPost.err HR.out rfl (bset6 HB.out (Nat.le_refl _) _ _ _ _ _ _))
set_option maxHeartbeats 12800000 in
set_option maxRecDepth 100000 in
theorem rparse_walk (s : ByteArray) (w : World) (h : s.size ≤ 16384) (b0 b1 b2 b3 b4 : ByteArray) (rest : List (List UInt8)) (hw : words s.data.toList = .ok (b0.data.toList :: b1.data.toList :: b2.data.toList :: b3.data.toList :: b4.data.toList :: rest)) :
    Calls Tryz.prog 12 #[.string s] w (EpPost (evR s.data.toList) w) := by
  have hsl : s.data.toList.length ≤ 16384 := by rw [len_byte]; exact h
  obtain ⟨hL1, hL2⟩ := words_len _ _ hw
  have z0 : b0.size ≤ 16384 := by have := hL1 b0.data.toList (by simp); rw [len_byte] at this; omega
  have z1 : b1.size ≤ 16384 := by have := hL1 b1.data.toList (by simp); rw [len_byte] at this; omega
  have z2 : b2.size ≤ 16384 := by have := hL1 b2.data.toList (by simp); rw [len_byte] at this; omega
  have z4 : b4.size ≤ 16384 := by have := hL1 b4.data.toList (by simp); rw [len_byte] at this; omega
  have HZ := Lib.hid (show ∀ t ∈ rest, t.length ≤ 16384 from fun t ht => by have := hL1 t (by simp [ht]); omega)
  have HP := Lib.hid (fun g hg ht => ws_parts s.data.toList b0 b1 b2 b3 b4 rest hw g hg ht)
  have HSL := Lib.hid hsl
  have hml : rest.length ≤ 1000 := by simp at hL2; omega
  have HW := Lib.hid (fun w => rwords_any s w h)
  rw [hw] at HW
  obtain ⟨T, o0, hnum, hnv⟩ := num_one b4.data.toList
  have HNUM := Lib.hid (fun w => (rnum_any b4 w z4).mono (fun e w' h => hnum w e w' h))
  have HNV := Lib.hid hnv
  have HO := Lib.hid (below_alloc w (.cells #[.string ⟨#[]⟩, .string ⟨#[]⟩, .string ⟨#[]⟩, .int .i64 0, .int .i64 0, .slice none 0 0] 24))
  have HE := Lib.hid (show EB (w.alloc (.cells #[.string ⟨#[]⟩, .string ⟨#[]⟩, .string ⟨#[]⟩, .int .i64 0, .int .i64 0, .slice none 0 0] 24)) w.heap.size ev0 none 0 0 from EB.new w ev0 none 0 0)
  have q : (s.size : Int) ≤ 16384 := by omega
  obtain ⟨m, hm⟩ : ∃ m, m = rest.length := ⟨_, rfl⟩
  have HM := Lib.hid hm
  have hm1 : m ≤ 1000 := by omega
  obtain ⟨i0, hi, hz0, hz1, hz2⟩ := info_parts fdInfo
  have HI := Lib.hid (And.intro hi (And.intro hz0 (And.intro hz1 hz2)))
  clear hi hz0 hz1 hz2 hsl hw hL1 hL2 hm hml hnum hnv
  go_enter Tryz.func12, Tryz.ntmps12
  go_wp2_with fail
  ((with_reducible refine (HW.out _).mono ?_); rintro e w1 ⟨v, rfl, hown, hb1⟩)
  obtain ⟨A, cap, rfl, hcap1, hcap2, hmem⟩ := words_mem hown
  obtain ⟨g, rfl, _, hg, hcells⟩ := hmem (by simp)
  have HF5 := Lib.hid (show Five w1 g b0 b1 b2 b3 b4 from ⟨hcells 0 (by simp), hcells 1 (by simp), hcells 2 (by simp), hcells 3 (by simp), hcells 4 (by simp)⟩)
  have HFR := Lib.hid (show ∀ k (hk : k < rest.length), w1.cell? ⟨g, 5 + k, none⟩ = some (.string ⟨(rest[k]).toArray⟩) from fun k hk => by
    have := hcells (5 + k) (by simp; omega)
    rw [this]
    have e : ∀ (a b c d e : List UInt8) (l : List (List UInt8)) (k : Nat) (h : 5 + k < (a :: b :: c :: d :: e :: l).length) (h2 : k < l.length), (a :: b :: c :: d :: e :: l)[5 + k] = l[k] := by
      intro a b c d e l k h h2
      have : 5 + k = k + 1 + 1 + 1 + 1 + 1 := by omega
      simp only [this, List.getElem_cons_succ]
    rw [e _ _ _ _ _ _ _ _ hk])
  have HB1 := Lib.hid (below_then HO.out hb1)
  have HE1 := Lib.hid (HE.out.below hb1)
  have hE1 : w.heap.size < w1.heap.size := HE1.out.lt
  have hln : (b0.data.toList :: b1.data.toList :: b2.data.toList :: b3.data.toList :: b4.data.toList :: rest).length = m + 5 := by simp [HM.out]
  rw [hln] at hcap1 ⊢
  clear hb1 hown hmem hcells HO HE HW hln
  have n0 : 0 < m + 5 := by omega
  have n0' : (0 : Int) < (m : Int) + 5 := by omega
  have n1 : 1 < m + 5 := by omega
  have n1' : (1 : Int) < (m : Int) + 5 := by omega
  have n2 : 2 < m + 5 := by omega
  have n2' : (2 : Int) < (m : Int) + 5 := by omega
  have n3 : 3 < m + 5 := by omega
  have n3' : (3 : Int) < (m : Int) + 5 := by omega
  have n4 : 4 < m + 5 := by omega
  have n4' : (4 : Int) < (m : Int) + 5 := by omega
  go_wp2_with fail
  go_cut [6] (fun s6 wx => ∃ E, s6 = .pointer (some ⟨E, 0, none⟩) ∧ w1.heap.size ≤ E ∧ EB wx E ⟨b0, b1, b2, 0, 0, []⟩ none 0 0 ∧ Below w1.heap.size w1 wx)
  case first =>
    have hB0 : Below w1.heap.size w1 w1.drew := (Below.refl _ _).drew
    have hS0 := HF5.out
    unfold Five at hS0
    refine wp_region_held_drew (S := fun w' => w'.cell? ⟨g, 0, none⟩ = some (.string b0) ∧ w'.cell? ⟨g, 1, none⟩ = some (.string b1) ∧ w'.cell? ⟨g, 2, none⟩ = some (.string b2) ∧ w'.cell? ⟨g, 3, none⟩ = some (.string b3) ∧ w'.cell? ⟨g, 4, none⟩ = some (.string b4)) (by kernel_rfl) hS0 (fun hHeld => ?_)
    refine wpAnyH_take (i := 0) (v := ?_) rfl (by kernel_rfl) (by kernel_rfl) (by kernel_rfl) (fun _ _ _ h => h) (Or.inl ⟨by rfl, ?_⟩) (by assumption) ?_
    rotate_left
    · intro w hSw; (try dsimp only at hSw); go_simp; try (with_reducible rfl)
    try go_simp
    refine wpAnyH_take (i := 1) (v := ?_) rfl (by kernel_rfl) (by kernel_rfl) (by kernel_rfl) (fun _ _ _ h => h) (Or.inl ⟨by rfl, ?_⟩) (by assumption) ?_
    rotate_left
    · intro w hSw; (try dsimp only at hSw); go_simp; try (with_reducible rfl)
    try go_simp
    refine wpAnyH_take (i := 2) (v := ?_) rfl (by kernel_rfl) (by kernel_rfl) (by kernel_rfl) (fun _ _ _ h => h) (Or.inl ⟨by rfl, ?_⟩) (by assumption) ?_
    rotate_left
    · intro w hSw; (try dsimp only at hSw); go_simp; try (with_reducible rfl)
    try go_simp
    refine wpAnyH_take (i := 3) (v := ?_) rfl (by kernel_rfl) (by kernel_rfl) (by kernel_rfl) (fun _ _ _ h => h) (Or.inl ⟨by rfl, ?_⟩) (by assumption) ?_
    rotate_left
    · intro w hSw; (try dsimp only at hSw); go_simp; try (with_reducible rfl)
    try go_simp
    refine wpAnyH_take (i := 4) (v := ?_) rfl (by kernel_rfl) (by kernel_rfl) (by kernel_rfl) (fun _ _ _ h => h) (Or.inl ⟨by rfl, ?_⟩) (by assumption) ?_
    rotate_left
    · intro w hSw; (try dsimp only at hSw); go_simp; try (with_reducible rfl)
    try go_simp
    refine wpAnyH_take (i := 5) (v := ?_) rfl (by kernel_rfl) (by kernel_rfl) (by kernel_rfl) (fun _ _ _ h => h) (Or.inl ⟨by rfl, ?_⟩) (by assumption) ?_
    rotate_left
    · intro w hSw; (try dsimp only at hSw); go_simp; try (with_reducible rfl)
    try go_simp
    refine wpAnyH_take (i := 6) (v := ?_) rfl (by kernel_rfl) (by kernel_rfl) (by kernel_rfl) (fun _ _ _ h => h) (Or.inl ⟨by rfl, ?_⟩) (by assumption) ?_
    rotate_left
    · intro w hSw; (try dsimp only at hSw); go_simp; try (with_reducible rfl)
    try go_simp
    refine wpAnyH_take (i := 7) (v := ?_) rfl (by kernel_rfl) (by kernel_rfl) (by kernel_rfl) (fun _ _ _ h => h) (Or.inl ⟨by rfl, ?_⟩) (by assumption) ?_
    rotate_left
    · intro w hSw; (try dsimp only at hSw); go_simp; try (with_reducible rfl)
    try go_simp
    refine wpAnyH_take (i := 8) (v := ?_) rfl (by kernel_rfl) (by kernel_rfl) (by kernel_rfl) (fun _ _ _ h => h) (Or.inl ⟨by rfl, ?_⟩) (by assumption) ?_
    rotate_left
    · intro w hSw; (try dsimp only at hSw); go_simp; try (with_reducible rfl)
    try go_simp
    refine wpAnyH_take (i := 9) (v := ?_) rfl (by kernel_rfl) (by kernel_rfl) (by kernel_rfl) (fun _ _ _ h => h) (Or.inl ⟨by rfl, ?_⟩) (by assumption) ?_
    rotate_left
    · intro w hSw; (try dsimp only at hSw); go_simp; try (with_reducible rfl)
    try go_simp
    refine wpAnyH_ready (rs := [10]) (by kernel_rfl) (by simp) ?_
    refine AllReadyH.cons rfl (fun K hK => ?_) AllReadyH.nil
    go_simp
    skip
    refine hK.out _ _ (⟨cell_stays (below_alloc _ _) hHeld.1, cell_stays (below_alloc _ _) hHeld.2.1, cell_stays (below_alloc _ _) hHeld.2.2.1, cell_stays (below_alloc _ _) hHeld.2.2.2.1, cell_stays (below_alloc _ _) hHeld.2.2.2.2⟩) (fun hHeld => ?_)
    clear hK K
    try go_simp
    have hBs : Below w1.heap.size w1 (w1.alloc (.cells #[.string b0, .string b1, .string b2, .int .i64 0, .int .i64 0, .slice none 0 0] 24)).drew := (below_alloc w1 (.cells #[.string b0, .string b1, .string b2, .int .i64 0, .int .i64 0, .slice none 0 0] 24)).drew
    have hS := HF5.out.below hBs
    refine wpAnyH_ready (rs := [11]) (by kernel_rfl) (by simp) ?_
    refine AllReadyH.cons rfl (fun K hK => ?_) AllReadyH.nil
    go_simp
    skip
    refine hK.out _ _ (hS) (fun hHeld => ?_)
    clear hK K
    try go_simp
    refine wpAnyH_done (by kernel_rfl) ?_ _
    go_wp2_with fail
    go_meet
    exact ⟨_, rfl, Nat.le_refl _, (EB.new w1 ⟨b0, b1, b2, 0, 0, []⟩ none 0 0).below (show Below (w1.alloc (.cells #[.string b0, .string b1, .string b2, .int .i64 0, .int .i64 0, .slice none 0 0] 24)).heap.size (w1.alloc (.cells #[.string b0, .string b1, .string b2, .int .i64 0, .int .i64 0, .slice none 0 0] 24)) (w1.alloc (.cells #[.string b0, .string b1, .string b2, .int .i64 0, .int .i64 0, .slice none 0 0] 24)).drew from (Below.refl _ _).drew), hBs⟩
  case rest =>
    obtain ⟨E, rfl, hE, hEB, hBx⟩ := hcut
    have HS0 := Lib.hid (show EB wc E ⟨b0, b1, b2, 0, 0, []⟩ none 0 0 ∧ Below w1.heap.size w1 wc from ⟨hEB, hBx⟩)
    clear hEB hBx
    go_wp2_with fail
    go_loopg [7] (6) (fun g' iv wr => ∃ (k : Nat) (life : Int), k + g' = 7 ∧ 1 ≤ k ∧ iv = .int .i64 k ∧ (∀ n : Int, 1 ≤ n → n ≤ 6 → n < k → b3 = lifeB n → life = n) ∧ EB wr E ⟨b0, b1, b2, life, 0, []⟩ none 0 0 ∧ Below w1.heap.size w1 wr)
    case atStart => exact ⟨1, 0, by omega, by omega, rfl, fun n h1 _ h2 => by omega, HS0.out.1, HS0.out.2⟩
    case round =>
      obtain ⟨k, life, hk, hk1, rfl, hlife, hEB, hBx⟩ := hrel
      have HK := Lib.hid hk
      have HL := Lib.hid hlife
      have HEB := Lib.hid hEB
      have HBx := Lib.hid hBx
      have hk7 : k ≤ 7 := by omega
      clear hk hlife hEB hBx HS0
      obtain ⟨c0, c1, c2, c3, c4, c5⟩ := HEB.out.cells
      obtain ⟨f0, f1, f2, f3, f4, f5⟩ := HEB.out.fr
      obtain ⟨d0, d1, d2, d3, d4⟩ := HF5.out.below HBx.out
      by_cases hlt : k ≤ 6
      · have hlti : (k : Int) ≤ 6 := by omega
        have hk1i : 1 ≤ (k : Int) := by omega
        have HW3 := Lib.hid (fun w => rword_any (k : Int) w hk1i hlti)
        by_cases hb : lifeB (k : Int) = b3
        · have q1 : ((lifeB (k : Int)).toList == b3.toList) = true := by rw [hb]; exact beq_self_eq_true _
          have HN := Lib.hid (show ∀ n : Int, 1 ≤ n → n ≤ 6 → n < ((k + 1 : Nat) : Int) → b3 = lifeB n → (k : Int) = n from fun n h1 h6 _ h2 => lifeB_inj k n hk1i hlti h1 h6 (by rw [hb]; exact h2))
          clear hb c0 c1 c2 c4 c5
          go_wp2_with fail
          refine wp_region_held_drew (S := fun w' => w'.cell? ⟨g, 3, none⟩ = some (.string b3)) (by kernel_rfl) d3 (fun hHeld => ?_)
          refine wpAnyH_take (i := 0) (v := ?_) rfl (by kernel_rfl) (by kernel_rfl) (by kernel_rfl) (fun _ _ _ h => h) (Or.inl ⟨by rfl, ?_⟩) (by assumption) ?_
          rotate_left
          · intro w hSw; (try dsimp only at hSw); go_simp; try (with_reducible rfl)
          try go_simp
          refine wpAnyH_take (i := 2) (v := ?_) rfl (by kernel_rfl) (by kernel_rfl) (by kernel_rfl) (fun _ _ _ h => h) (Or.inl ⟨by rfl, ?_⟩) (by assumption) ?_
          rotate_left
          · intro w hSw; (try dsimp only at hSw); go_simp; try (with_reducible rfl)
          try go_simp
          refine wpAnyH_take (i := 3) (v := ?_) rfl (by kernel_rfl) (by kernel_rfl) (by kernel_rfl) (fun _ _ _ h => h) (Or.inl ⟨by rfl, ?_⟩) (by assumption) ?_
          rotate_left
          · intro w hSw; (try dsimp only at hSw); go_simp; try (with_reducible rfl)
          try go_simp
          refine wpAnyH_take (i := 4) (v := ?_) rfl (by kernel_rfl) (by kernel_rfl) (by kernel_rfl) (fun _ _ _ h => h) (Or.inl ⟨by rfl, ?_⟩) (by assumption) ?_
          rotate_left
          · intro w hSw; (try dsimp only at hSw); go_simp; try (with_reducible rfl)
          try go_simp
          refine wpAnyH_ready (rs := [1]) (by kernel_rfl) (by simp) ?_
          refine AllReadyH.cons rfl (fun K hK => ?_) AllReadyH.nil
          go_simp
          ((refine (HW3.out _).mono ?_); rintro x wm ⟨rfl, rfl⟩)
          refine hK.out _ _ (hHeld) (fun hHeld => ?_)
          clear hK K
          try go_simp
          refine wpAnyH_take (i := 5) (v := ?_) rfl (by kernel_rfl) (by kernel_rfl) (by kernel_rfl) (fun _ _ _ h => h) (Or.inl ⟨by rfl, ?_⟩) (by assumption) ?_
          rotate_left
          · intro w hSw; (try dsimp only at hSw); go_simp; try (with_reducible rfl)
          try go_simp
          refine wpAnyH_done (by kernel_rfl) ?_ _
          go_wp2_with fail
          go_roundg (gk - 1)
          case measure => have := HK.out; omega
          case rel => exact ⟨k + 1, (k : Int), by have := HK.out; omega, by omega, by go_num, HN.out, (HEB.out.below (show Below wr.heap.size wr wr.drew from (Below.refl _ _).drew)).set3 _, (HBx.out.drew).setCell (p := ⟨E, 3, none⟩) hE _⟩
        · have q1 : ((lifeB (k : Int)).toList == b3.toList) = false := str_ne _ _ (fun h => hb (bytes_ext h))
          have HN := Lib.hid (show ∀ n : Int, 1 ≤ n → n ≤ 6 → n < ((k + 1 : Nat) : Int) → b3 = lifeB n → life = n from fun n h1 h6 h3 h2 => by
            by_cases e : n = k
            · subst e; exact (hb h2.symm).elim
            · exact HL.out n h1 h6 (by omega) h2)
          clear hb c0 c1 c2 c4 c5
          go_wp2_with fail
          refine wp_region_held_drew (S := fun w' => w'.cell? ⟨g, 3, none⟩ = some (.string b3)) (by kernel_rfl) d3 (fun hHeld => ?_)
          refine wpAnyH_take (i := 0) (v := ?_) rfl (by kernel_rfl) (by kernel_rfl) (by kernel_rfl) (fun _ _ _ h => h) (Or.inl ⟨by rfl, ?_⟩) (by assumption) ?_
          rotate_left
          · intro w hSw; (try dsimp only at hSw); go_simp; try (with_reducible rfl)
          try go_simp
          refine wpAnyH_take (i := 2) (v := ?_) rfl (by kernel_rfl) (by kernel_rfl) (by kernel_rfl) (fun _ _ _ h => h) (Or.inl ⟨by rfl, ?_⟩) (by assumption) ?_
          rotate_left
          · intro w hSw; (try dsimp only at hSw); go_simp; try (with_reducible rfl)
          try go_simp
          refine wpAnyH_take (i := 3) (v := ?_) rfl (by kernel_rfl) (by kernel_rfl) (by kernel_rfl) (fun _ _ _ h => h) (Or.inl ⟨by rfl, ?_⟩) (by assumption) ?_
          rotate_left
          · intro w hSw; (try dsimp only at hSw); go_simp; try (with_reducible rfl)
          try go_simp
          refine wpAnyH_take (i := 4) (v := ?_) rfl (by kernel_rfl) (by kernel_rfl) (by kernel_rfl) (fun _ _ _ h => h) (Or.inl ⟨by rfl, ?_⟩) (by assumption) ?_
          rotate_left
          · intro w hSw; (try dsimp only at hSw); go_simp; try (with_reducible rfl)
          try go_simp
          refine wpAnyH_ready (rs := [1]) (by kernel_rfl) (by simp) ?_
          refine AllReadyH.cons rfl (fun K hK => ?_) AllReadyH.nil
          go_simp
          ((refine (HW3.out _).mono ?_); rintro x wm ⟨rfl, rfl⟩)
          refine hK.out _ _ (hHeld) (fun hHeld => ?_)
          clear hK K
          try go_simp
          refine wpAnyH_take (i := 5) (v := ?_) rfl (by kernel_rfl) (by kernel_rfl) (by kernel_rfl) (fun _ _ _ h => h) (Or.inl ⟨by rfl, ?_⟩) (by assumption) ?_
          rotate_left
          · intro w hSw; (try dsimp only at hSw); go_simp; try (with_reducible rfl)
          try go_simp
          refine wpAnyH_done (by kernel_rfl) ?_ _
          go_wp2_with fail
          go_roundg (gk - 1)
          case measure => have := HK.out; omega
          case rel => exact ⟨k + 1, life, by have := HK.out; omega, by omega, by go_num, HN.out, HEB.out.below (show Below wr.heap.size wr wr.drew from (Below.refl _ _).drew), HBx.out.drew⟩
      · have HN := Lib.hid (show ∀ n : Int, 1 ≤ n → n ≤ 6 → b3 = lifeB n → life = n from fun n h1 h6 h2 => HL.out n h1 h6 (by omega) h2)
        have hlti : ¬ (k : Int) ≤ 6 := by omega
        clear HL HK c0 c1 c2 c3 c5
        go_wp2_with fail
        ((with_reducible refine (HNUM.out _).mono ?_); rintro x w2 ⟨rfl, rfl⟩)
        go_wp2_with fail
        have HRI0 := Lib.hid (show RInv s.data.toList 0 [] o0 from fun g hg ht => ⟨rfl, (HNV.out g.time (ev_head g hg).2.2.1 (ev_head g hg).2.2.2.1 (HP.out g hg ht).2.2.2.2.1).2⟩)
        have HS1 := Lib.hid (show FSt w1 (wr.setCell ⟨E, 4, none⟩ (.int .i64 (T : Int))) E ⟨b0, b1, b2, life, (T : Int), []⟩ none 0 from ⟨HEB.out.set4 _, World.ownsRow_nil _ _ _ _, HBx.out.setCell (p := ⟨E, 4, none⟩) hE _, hE, fun f hf => by cases hf⟩)
        clear c4 d0 d1 d2 d3 d4 f0 f1 f2 f3 f4 f5 hlti hlt hk7 hk1 HEB HBx n0 n0' n1 n1' n2 n2' n3 n3' n4 n4'
        generalize wr.setCell ⟨E, 4, none⟩ (.int .i64 (T : Int)) = wq at *
        go_loopg [9, 10] (m) (fun g' ov iv wr => ∃ (kk : Nat) (d : List Fd) (o : Bool) (A3 : Option Addr) (c3 : Nat), 5 ≤ kk ∧ kk + g' = m + 5 ∧ ov = .bool o ∧ iv = .int .i64 kk ∧ d.length = kk - 5 ∧ RInv s.data.toList (kk - 5) d o ∧ FSt w1 wr E ⟨b0, b1, b2, life, (T : Int), d⟩ A3 c3)
        case atStart => exact ⟨5, [], o0, none, 0, by omega, by omega, rfl, rfl, rfl, HRI0.out, HS1.out⟩
        case round =>
          obtain ⟨kk, d, o, A3, c3, hk5, hk, rfl, rfl, hdl, hri, hS⟩ := hrel
          have HK := Lib.hid hk
          have HDL := Lib.hid hdl
          have HRI := Lib.hid hri
          have HS := Lib.hid hS
          have hkm : kk ≤ m + 5 := by omega
          have hdk : d.length ≤ 1000 := by omega
          clear hk hdl hri hS HS1 HRI0
          by_cases hlt : kk < m + 5
          · have hj : kk - 5 < rest.length := by rw [← HM.out]; omega
            have hc0 := HFR.out (kk - 5) hj
            rw [show 5 + (kk - 5) = kk by omega] at hc0
            have hzy := HZ.out _ (List.getElem_mem hj)
            have HST := Lib.hid (fun f b hf => HRI.out.step rest (fun g hg ht => (HP.out g hg ht).2.2.2.2.2) hj f b hf)
            obtain ⟨y, hy⟩ : ∃ y : ByteArray, rest[kk - 5] = y.data.toList := ⟨⟨rest[kk - 5].toArray⟩, rfl⟩
            rw [hy] at hc0 hzy HST
            rw [len_byte] at hzy
            have hcell := cell_stays HS.out.2.2.1 hc0
            have HFI := Lib.hid (fun w => rfield_any y w hzy)
            have hlti : (kk : Int) < (m : Int) + 5 := by omega
            clear hj hc0 hy hzy HRI
            go_wp2_with fail
            ((with_reducible refine (HFI.out _).mono ?_); rintro x w3 ⟨f, b, rfl, hb3, hf1, hf2, hfv⟩)
            have HS3 := Lib.hid (HS.out.below hb3)
            have HST2 := Lib.hid (HST.out f b hfv)
            clear hb3 hfv hcell HST HS HFI
            obtain ⟨fn, fk, fi, fs⟩ := f
            unfold Fd.val
            simp only at hf1 hf2
            obtain ⟨c0, c1, c2, c3', c4, c5⟩ := HS3.out.1.cells
            have hz3 := HS3.out.1.lt
            have HOW := Lib.hid HS3.out.2.1
            simp only at c0 c1 c2 c3' c4 c5 HOW
            cases o
            · skip
              have HAp : True := trivial
              go_wp2_with (at_builtin; refine wpList_append_own _ rfl _ _ 22 rfl (E + 1) 49 i0 (.agg #[.string ⟨#[]⟩, .int .i64 0, .int .i64 0, .string ⟨#[]⟩]) 4 48 Tryz.underlying22 HI.out.1 HI.out.2.1 HI.out.2.2.1 HI.out.2.2.2 rfl (by decide) (.slice A3 d.length c3) _ _ rfl ((HOW.out.alloc _).alloc _) ⟨w3.heap.size + 1, 0, none⟩ 1 1 [.string fn, .int .i64 fk, .int .i64 fi, .string fs] rfl rfl ?p1 ?p2 ?p3 ?p4 ?p5 ?_)
              case p1 =>
                intro j u hj
                match j, hj with
                | 0, hj => simp at hj; subst hj; simp [Addr.add]
                | 1, hj => simp at hj; subst hj; simp [Addr.add]
                | 2, hj => simp at hj; subst hj; simp [Addr.add]
                | 3, hj => simp at hj; subst hj; simp [Addr.add]
                | j + 4, hj => simp at hj
              case p2 => intro u hu; simp at hu; rcases hu with rfl | rfl | rfl | rfl <;> rfl
              case p3 => unfold maxLen; omega
              case p4 => omega
              case p5 => simp; omega
              intro v' w5 hown5 hgrow5 _
              obtain ⟨A', c', rfl, hE5, hS6⟩ := HS3.out.push ⟨fn, ⟨fk, fi, fs⟩⟩ ⟨hf1, hf2⟩ hown5 hgrow5
              have HS6 := Lib.hid hS6
              obtain ⟨x0, x1, x2, x3, x4, x5⟩ := hE5.cells
              obtain ⟨y0, y1, y2, y3, y4, y5⟩ := hE5.fr
              simp only at x0 x1 x2 x3 x4 x5
              clear hown5 hgrow5 hS6 hE5 c0 c1 c2 c3' c4 c5
              go_wp2_with fail
              go_roundg (gk - 1)
              case measure => have := HK.out; omega
              case rel => exact ⟨kk + 1, d ++ [⟨fn, ⟨fk, fi, fs⟩⟩], _, A', c', by omega, by have := HK.out; omega, rfl, by go_num, by rw [List.length_append, HDL.out]; simp; omega, by have := HST2.out; rw [show kk - 5 + 1 = kk + 1 - 5 by omega] at this; exact this, HS6.out⟩
            · skip
              have HAq : True := trivial
              go_wp2_with (at_builtin; refine wpList_append_own _ rfl _ _ 22 rfl (E + 1) 49 i0 (.agg #[.string ⟨#[]⟩, .int .i64 0, .int .i64 0, .string ⟨#[]⟩]) 4 48 Tryz.underlying22 HI.out.1 HI.out.2.1 HI.out.2.2.1 HI.out.2.2.2 rfl (by decide) (.slice A3 d.length c3) _ _ rfl ((HOW.out.alloc _).alloc _) ⟨w3.heap.size + 1, 0, none⟩ 1 1 [.string fn, .int .i64 fk, .int .i64 fi, .string fs] rfl rfl ?q1 ?q2 ?q3 ?q4 ?q5 ?_)
              case q1 =>
                intro j u hj
                match j, hj with
                | 0, hj => simp at hj; subst hj; simp [Addr.add]
                | 1, hj => simp at hj; subst hj; simp [Addr.add]
                | 2, hj => simp at hj; subst hj; simp [Addr.add]
                | 3, hj => simp at hj; subst hj; simp [Addr.add]
                | j + 4, hj => simp at hj
              case q2 => intro u hu; simp at hu; rcases hu with rfl | rfl | rfl | rfl <;> rfl
              case q3 => unfold maxLen; omega
              case q4 => omega
              case q5 => simp; omega
              intro v' w5 hown5 hgrow5 _
              obtain ⟨A', c', rfl, hE5, hS6⟩ := HS3.out.push ⟨fn, ⟨fk, fi, fs⟩⟩ ⟨hf1, hf2⟩ hown5 hgrow5
              have HS6 := Lib.hid hS6
              obtain ⟨x0, x1, x2, x3, x4, x5⟩ := hE5.cells
              obtain ⟨y0, y1, y2, y3, y4, y5⟩ := hE5.fr
              simp only at x0 x1 x2 x3 x4 x5
              clear hown5 hgrow5 hS6 hE5 c0 c1 c2 c3' c4 c5
              go_wp2_with fail
              go_roundg (gk - 1)
              case measure => have := HK.out; omega
              case rel => exact ⟨kk + 1, d ++ [⟨fn, ⟨fk, fi, fs⟩⟩], _, A', c', by omega, by have := HK.out; omega, rfl, by go_num, by rw [List.length_append, HDL.out]; simp; omega, by have := HST2.out; rw [show kk - 5 + 1 = kk + 1 - 5 by omega] at this; exact this, HS6.out⟩
          · have HFIN := Lib.hid (cand_eq HP.out HN.out (fun t h0 h1 h => (HNV.out t h0 h1 h).1) HRI.out (by rw [← HM.out]; omega))
            have hlti : ¬ (kk : Int) < (m : Int) + 5 := by omega
            clear HRI HP HN HNV HFR
            generalize hev : (⟨b0, b1, b2, life, (T : Int), d⟩ : Ev) = e at *
            have h0 : e.c = b0 ∧ e.a = b1 ∧ e.r = b2 ∧ e.d = d := by subst hev; exact ⟨rfl, rfl, rfl, rfl⟩
            obtain ⟨A', c', hv', hfd, _, _, _⟩ := own_fdin HS.out.2.1
            cases hv'
            have hS := HS.out
            have HX := Lib.hid (revtx_any e A3 e.d.length c3 wr hfd rfl (by rw [h0.2.2.2]; omega) ⟨by rw [h0.1]; omega, by rw [h0.2.1]; omega, by rw [h0.2.2.1]; omega, fun f hf => by have := hS.2.2.2.2 f hf; omega⟩)
            obtain ⟨x0, x1, x2, x3, x4, x5⟩ := hS.1.cells
            have HE2 := Lib.hid (HE1.out.below hS.2.2.1)
            have HBw := Lib.hid (below_then HB1.out hS.2.2.1)
            clear hfd hS hev h0 HF5
            cases hok : e.ok with
            | false =>
              have HRN := Lib.hid (evR_bad HSL.out (fun g hg ht => by have := (HFIN.out g hg ht).1; rw [← this, hok] at hg; cases hg))
              rw [etRet_no hok] at HX
              clear hok HFIN
              cases o
              all_goals
                go_wp2_with fail
                ((with_reducible refine HX.out.mono ?_); rintro x w5 ⟨rfl, hb5⟩)
                have HE5 := Lib.hid (HE2.out.below hb5)
                have HB5 := Lib.hid (below_then HBw.out hb5)
                clear hb5 x0 x1 x2 x3 x4 x5
                obtain ⟨c0, c1, c2, c3, c4, c5⟩ := HE5.out.cells
                obtain ⟨f0, f1, f2, f3, f4, f5⟩ := HE5.out.fr
                simp only [ev0] at c0 c1 c2 c3 c4 c5
                go_wp2_with fail
                exact bodyPost_ret (v := .tuple #[.agg #[.string ⟨#[]⟩, .string ⟨#[]⟩, .string ⟨#[]⟩, .int .i64 0, .int .i64 0, .slice none 0 0], .int .i64 3]) (by simp [results, Tryz.results12, go_sem, c0, c1, c2, c3, c4, c5]) rfl (EpPost.err HRN.out rfl (bset6 HB5.out (Nat.le_refl _) _ _ _ _ _ _))
            | true =>
              rw [etRet_yes hok] at HX
              cases o with
              | false =>
                have HRN := Lib.hid (evR_bad HSL.out (fun g hg ht => by have := (HFIN.out g hg ht).2; cases this))
                clear hok HFIN
                go_wp2_with fail
                ((with_reducible refine HX.out.mono ?_); rintro x w5 ⟨rfl, hb5⟩)
                have HE5 := Lib.hid (HE2.out.below hb5)
                have HB5 := Lib.hid (below_then HBw.out hb5)
                clear hb5 x0 x1 x2 x3 x4 x5
                obtain ⟨c0, c1, c2, c3, c4, c5⟩ := HE5.out.cells
                obtain ⟨f0, f1, f2, f3, f4, f5⟩ := HE5.out.fr
                simp only [ev0] at c0 c1 c2 c3 c4 c5
                go_wp2_with fail
                exact bodyPost_ret (v := .tuple #[.agg #[.string ⟨#[]⟩, .string ⟨#[]⟩, .string ⟨#[]⟩, .int .i64 0, .int .i64 0, .slice none 0 0], .int .i64 3]) (by simp [results, Tryz.results12, go_sem, c0, c1, c2, c3, c4, c5]) rfl (EpPost.err HRN.out rfl (bset6 HB5.out (Nat.le_refl _) _ _ _ _ _ _))
              | true =>
                by_cases htx : e.tx = s.data.toList
                · have HRN := Lib.hid (evR_good HSL.out hok htx)
                  rw [htx, show (⟨s.data.toList.toArray⟩ : ByteArray) = s from rfl] at HX
                  clear hok HFIN htx
                  go_wp2_with fail
                  ((with_reducible refine HX.out.mono ?_); rintro x w5 ⟨rfl, hb5⟩)
                  have HE5 := Lib.hid (HE2.out.below hb5)
                  have HB5 := Lib.hid (below_then HBw.out hb5)
                  have HS5 := Lib.hid (HS.out.below hb5)
                  clear hb5 x0 x1 x2 x3 x4 x5
                  obtain ⟨c0, c1, c2, c3', c4, c5⟩ := HE5.out.cells
                  obtain ⟨f0, f1, f2, f3, f4, f5⟩ := HE5.out.fr
                  obtain ⟨x0, x1, x2, x3, x4, x5⟩ := HS5.out.1.cells
                  simp only [ev0] at c0 c1 c2 c3' c4 c5
                  have hEw : w.heap.size < E + 1 := by omega
                  have HO6 := Lib.hid (own_set6 HS5.out.2.1 hEw (.string e.c) (.string e.a) (.string e.r) (.int .i64 e.life) (.int .i64 e.time) (.slice A3 e.d.length c3))
                  clear hEw
                  go_wp2_with fail
                  obtain ⟨A', c', hv', hfd, _, _, _⟩ := own_fdin HO6.out
                  cases hv'
                  exact bodyPost_ret (v := .tuple #[.agg #[.string e.c, .string e.a, .string e.r, .int .i64 e.life, .int .i64 e.time, .slice A3 e.d.length c3], .int .i64 0]) (by simp [results, Tryz.results12, go_sem, c0, c1, c2, c3', c4, c5]) rfl (EpPost.ok HRN.out rfl hfd (bset6 HB5.out (Nat.le_refl _) _ _ _ _ _ _))
                · have HRN := Lib.hid (evR_bad HSL.out (fun g hg ht => by have := (HFIN.out g hg ht).1; rw [← this] at ht; exact htx ht))
                  obtain ⟨y, hy⟩ : ∃ y : ByteArray, y = ⟨e.tx.toArray⟩ := ⟨_, rfl⟩
                  have b4' := str_ne y s (by rw [hy]; exact htx)
                  rw [← hy] at HX
                  clear hok HFIN htx hy
                  go_wp2_with fail
                  ((with_reducible refine HX.out.mono ?_); rintro x w5 ⟨rfl, hb5⟩)
                  have HE5 := Lib.hid (HE2.out.below hb5)
                  have HB5 := Lib.hid (below_then HBw.out hb5)
                  clear hb5 x0 x1 x2 x3 x4 x5
                  obtain ⟨c0, c1, c2, c3, c4, c5⟩ := HE5.out.cells
                  obtain ⟨f0, f1, f2, f3, f4, f5⟩ := HE5.out.fr
                  simp only [ev0] at c0 c1 c2 c3 c4 c5
                  go_wp2_with fail
                  exact bodyPost_ret (v := .tuple #[.agg #[.string ⟨#[]⟩, .string ⟨#[]⟩, .string ⟨#[]⟩, .int .i64 0, .int .i64 0, .slice none 0 0], .int .i64 3]) (by simp [results, Tryz.results12, go_sem, c0, c1, c2, c3, c4, c5]) rfl (EpPost.err HRN.out rfl (bset6 HB5.out (Nat.le_refl _) _ _ _ _ _ _))
theorem rparse_any (s : ByteArray) (w : World) (h' : s.size ≤ 16384) : Calls Tryz.prog 12 #[.string s] w (EpPost (evR s.data.toList) w) := by
  cases hw : words s.data.toList with
  | error k => exact rparse_bad s w h' k hw
  | ok L =>
    by_cases h5 : L.length < 5
    · exact rparse_short s w h' L hw h5
    · match L, h5, hw with
      | [], h5, _ => simp at h5
      | [_], h5, _ => simp at h5
      | [_, _], h5, _ => simp at h5
      | [_, _, _], h5, _ => simp at h5
      | [_, _, _, _], h5, _ => simp at h5
      | l0 :: l1 :: l2 :: l3 :: l4 :: rest, _, hw => exact rparse_walk s w h' ⟨l0.toArray⟩ ⟨l1.toArray⟩ ⟨l2.toArray⟩ ⟨l3.toArray⟩ ⟨l4.toArray⟩ rest hw
end Go.Proofs.YtbbdgncjpbfooaaGreatDoor
